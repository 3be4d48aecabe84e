/-
  Seal of the reference.
-/
import Derived.Test.YtlkkpgdgnnknpaaPage3
import Derived.Laws.MakeOwn
namespace Go.Proofs.Ytlkkpgdgnnknpaa
open Go.RowKit
open Go.BigFrame
set_option linter.unusedVariables false
attribute [local go_sem] OpGood goodUpon fillA Act.put

/-- what holds of each operation's value -/
def prP : List (Value → World → Prop) → Nat → Value → World → Prop
  | [], _, _, _ => True
  | R :: _, 0, u, w => R u w
  | _ :: Rs, j + 1, u, w => prP Rs j u w
def Stab (R : Value → World → Prop) : Prop := ∀ u (w w' : World), Below w.heap.size w w' → R u w → R u w'
def prS : List (Value → World → Prop) → Prop
  | [] => True
  | R :: Rs => Stab R ∧ prS Rs
theorem prP_stable : ∀ (Rs : List (Value → World → Prop)), prS Rs → ∀ j u (w w' : World), Below w.heap.size w w' → prP Rs j u w → prP Rs j u w'
  | [], _, _, _, _, _, _, h => h
  | _ :: _, hs, 0, u, w, w', hb, h => hs.1 u w w' hb h
  | _ :: Rs, hs, j + 1, u, w, w', hb, h => prP_stable Rs hs.2 j u w w' hb h
theorem stab_eq (v : Value) : Stab (fun u _ => u = v) := fun _ _ _ _ h => h

theorem sealRest {k l : Nat} {cs : List ByteArray} (h : usedN cs ≤ 1012) : headL k l cs.length ++ offsL cs cs.length ++ List.replicate (1012 - usedN cs) 0 ++ bodyL cs = midL k l cs cs.length := by
  have := used_body cs
  rw [midL, List.take_length, show 1012 - 2 * cs.length - bodyN cs = 1012 - usedN cs by omega]
theorem made_zero (n : Nat) (w : World) : BS (w.alloc (.cells (madeCells #[.int .u8 0] n) 5)) (some ⟨w.heap.size, 0, none⟩) n (List.replicate n 0) := by
  have e : madeCells #[Value.int .u8 0] n = (u8s (List.replicate n 0)).toArray := by
    apply Array.toList_inj.1
    rw [show (u8s (List.replicate n 0)).toArray.toList = List.replicate n (Value.int .u8 0) by simp [u8s, u8v]]
    refine List.eq_replicate_iff.2 ⟨by simp [size_madeCells], fun b hb => ?_⟩
    simp only [madeCells, Array.toList_map, List.mem_map] at hb
    obtain ⟨a, _, rfl⟩ := hb
    show (#[Value.int .u8 0] : Array Value)[a % 1]! = _
    rw [Nat.mod_one]; rfl
  rw [e]
  have := BS.of_has (Has.new w 5 (u8s (List.replicate n 0)).toArray)
  rwa [List.length_replicate] at this
theorem make_bytes (i : Nat) (hi : i ≤ 1012) (w : World) : (Instr.makeSlice 55 (.int .i64 i) (.int .i64 i)).run Try.prog w = .ok (.slice (some ⟨w.heap.size, 0, none⟩) i i) (w.alloc (.cells (madeCells #[.int .u8 0] i) 5)) := by
  obtain ⟨i0, hi0, hz0, hz1, hz2⟩ := info_parts infoByte
  have := run_make (P := Try.prog) w 55 5 i0 _ Try.underlying55 hi0 hz0 .i64 .i64 (i : Int) (i : Int) (by omega) (by omega) (by rw [hz2]; omega) (by omega)
  rw [hz1, show (Value.int .u8 0).cells = #[.int .u8 0] from rfl] at this
  simpa using this

set_option maxRecDepth 100000 in
set_option maxHeartbeats 6400000 in
theorem ref_Seal (K L : Int) (A : Option Addr) (n c : Nat) (cs : List ByteArray) (w : World) (h : SS w A n cs) (hn : n ≤ 4194304) (hu : usedN cs ≤ 8388608) :
    Calls Try.prog 30 #[.agg #[.int .i64 K, .int .i64 L, .slice A n c]] w fun e w' => e = .returned (.tuple #[.string (sealS K L cs), .int .i64 (sealE K L cs)]) ∧ Below w.heap.size w w' := by
  have hb0 := Lib.hid (show Below w.heap.size w (w.alloc (.cells #[.int .i64 K, .int .i64 L, .slice A n c] 40)) from (Below.refl _ _).alloc (Nat.le_refl _) _)
  have I1 := Lib.hid (fun w1 => ref_in K 1 5 w1)
  have I2 := Lib.hid (fun w1 => ref_in L 0 2147483647 w1)
  by_cases hk : K < 1 ∨ 5 < K ∨ L < 0 ∨ 2147483647 < L
  · have ANS : Hid (Ending.returned (.tuple #[.string ⟨#[]⟩, .int .i64 1]) = .returned (.tuple #[.string (sealS K L cs), .int .i64 (sealE K L cs)])) := by
      show _ = _
      rw [sealS, sealE, if_pos (.inl hk), if_pos hk]
    have hk2 : K < 1 ∨ (1 ≤ K ∧ 5 < K) ∨ (1 ≤ K ∧ K ≤ 5 ∧ L < 0) ∨ (1 ≤ K ∧ K ≤ 5 ∧ 0 ≤ L ∧ 2147483647 < L) := by omega
    clear hk h
    rcases hk2 with k1 | ⟨k1, k2⟩ | ⟨k1, k2, k3⟩ | ⟨k1, k2, k3, k4⟩
    · have d1 : decide (1 ≤ K) = false := by simp; omega
      go_enter Try.func30, Try.ntmps30
      go_wp2_with (first | (go_at_call 71; (with_reducible refine (I1.out _).mono ?_); rintro e w1 ⟨rfl, rfl⟩) | (go_at_call 71; (with_reducible refine (I2.out _).mono ?_); rintro e w1 ⟨rfl, rfl⟩))
      go_ret2
      exact ⟨ANS.out, hb0.out⟩
    · have d1 : decide (K ≤ 5) = false := by simp; omega
      go_enter Try.func30, Try.ntmps30
      go_wp2_with (first | (go_at_call 71; (with_reducible refine (I1.out _).mono ?_); rintro e w1 ⟨rfl, rfl⟩) | (go_at_call 71; (with_reducible refine (I2.out _).mono ?_); rintro e w1 ⟨rfl, rfl⟩))
      go_ret2
      exact ⟨ANS.out, hb0.out⟩
    · have d1 : decide (0 ≤ L) = false := by simp; omega
      go_enter Try.func30, Try.ntmps30
      go_wp2_with (first | (go_at_call 71; (with_reducible refine (I1.out _).mono ?_); rintro e w1 ⟨rfl, rfl⟩) | (go_at_call 71; (with_reducible refine (I2.out _).mono ?_); rintro e w1 ⟨rfl, rfl⟩))
      go_ret2
      exact ⟨ANS.out, hb0.out⟩
    · have d1 : decide (L ≤ 2147483647) = false := by simp; omega
      go_enter Try.func30, Try.ntmps30
      go_wp2_with (first | (go_at_call 71; (with_reducible refine (I1.out _).mono ?_); rintro e w1 ⟨rfl, rfl⟩) | (go_at_call 71; (with_reducible refine (I2.out _).mono ?_); rintro e w1 ⟨rfl, rfl⟩))
      go_ret2
      exact ⟨ANS.out, hb0.out⟩
  · have k1 : 1 ≤ K := by omega
    have k2 : K ≤ 5 := by omega
    have k3 : 0 ≤ L := by omega
    have k4 : L ≤ 2147483647 := by omega
    have HH := Lib.hid h
    clear h hk
    have HX0 := Lib.hid (Has.new w 40 #[.int .i64 K, .int .i64 L, .slice A n c])
    go_enter Try.func30, Try.ntmps30
    go_wp2_with (first | (go_at_call 71; (with_reducible refine (I1.out _).mono ?_); rintro e w1 ⟨rfl, rfl⟩) | (go_at_call 71; (with_reducible refine (I2.out _).mono ?_); rintro e w1 ⟨rfl, rfl⟩))
    generalize (w.alloc (.cells #[.int .i64 K, .int .i64 L, .slice A n c] 40)) = W at *
    go_loop [4, 25] (fun v4 v25 => ∃ i : Nat, i ≤ n ∧ v25 = .int .i64 i ∧ v4 = .int .i64 (1012 - (usedN (cs.take i) : Nat))) (fun _ v25 => n - (intOf v25).toNat)
    case atStart => exact ⟨0, Nat.zero_le _, rfl, rfl⟩
    case round =>
      obtain ⟨i, hi, rfl, rfl⟩ := hrel
      by_cases h1 : i < n
      · obtain ⟨b, off, rfl, hb, hc⟩ := HH.out.2 (by omega)
        have hl : i < cs.length := by rw [HH.out.1]; exact h1
        have c0 := (hb0.out.cell (p := ⟨b, off + i, none⟩) hb).trans (hc i cs[i] (by simp [hl]))
        have z0 : b < W.heap.size := by have := hb0.out.size; omega
        have E := Lib.hid (usedN_take cs hl)
        have x1 := usedN_take_le cs (i + 1)
        rw [E.out] at x1
        obtain ⟨x, hx⟩ : ∃ x, usedN (cs.take i) = x := ⟨_, rfl⟩
        rw [hx] at x1
        have HXX := Lib.hid hx
        rw [hx]
        clear hx hc
        have x2 : x ≤ 8388608 := by omega
        have x3 : cs[i].size ≤ 8388608 := by omega
        go_wp2_with fail
        go_round
        case rel => exact ⟨i + 1, by omega, by simp, by rw [E.out, HXX.out]; congr 1; omega⟩
        case measure => simp [intOf]; omega
      · obtain rfl : i = n := by omega
        have E : usedN (cs.take i) = usedN cs := by rw [← HH.out.1, List.take_length]
        rw [E]
        clear E
        by_cases hr : 1012 < usedN cs
        · have ANS : Hid (Ending.returned (.tuple #[.string ⟨#[]⟩, .int .i64 5]) = .returned (.tuple #[.string (sealS K L cs), .int .i64 (sealE K L cs)])) := by
            have q1 : ¬ (K < 1 ∨ 5 < K ∨ L < 0 ∨ 2147483647 < L) := by omega
            show _ = _
            rw [sealS, sealE, if_pos (.inr hr), if_neg q1, if_pos hr]
          go_wp2_with fail
          go_ret2
          exact ⟨ANS.out, hb0.out⟩
        · obtain ⟨F, hF⟩ : ∃ F : Nat, F = 1012 - usedN cs := ⟨_, rfl⟩
          have eF : (1012 : Int) - (usedN cs : Nat) = (F : Int) := by omega
          rw [eF]
          have HF := Lib.hid hF
          clear eF hF
          have kb : (0 : Int) ≤ K := by omega
          obtain ⟨kk, hkk⟩ : ∃ s, bsOf [UInt8.ofNat K.toNat, 0] = s := ⟨_, rfl⟩
          obtain ⟨nn, hnn⟩ : ∃ s, bsOf (beK i 2) = s := ⟨_, rfl⟩
          obtain ⟨ll, hll⟩ : ∃ s, bsOf (beK L.toNat 4) = s := ⟨_, rfl⟩
          have z1 : kk.size + nn.size ≤ 9223372036854775807 := by rw [← hkk, ← hnn, bsOf_size, bsOf_size, beK_len]; simp
          have z2 : (kk ++ nn).size + ll.size ≤ 9223372036854775807 := by rw [← hkk, ← hnn, ← hll, bsOf_append, bsOf_size, bsOf_size, beK_len, List.length_append, beK_len]; simp
          have z1' : ¬ (9223372036854775807 < kk.size + nn.size) := by omega
          have z2' : ¬ (9223372036854775807 < kk.size + nn.size + ll.size) := by rw [ByteArray.size_append] at z2; omega
          have HEAD : Hid (kk ++ nn ++ ll = bsOf (headL K.toNat L.toNat cs.length)) := by rw [← hkk, ← hnn, ← hll, bsOf_append, bsOf_append, HH.out.1]; exact rfl
          have B2 : Hid (∀ w1, Calls Try.prog 72 #[.int .u64 i, .int .i64 2] w1 fun e w' => e = .returned (.string nn) ∧ Below w1.heap.size w1 w') := fun w1 => by
            have := ref_bytes i 2 (by omega) (by omega) w1
            rw [hnn] at this; exact this
          have B4 : Hid (∀ w1, Calls Try.prog 72 #[.int .u64 L, .int .i64 4] w1 fun e w' => e = .returned (.string ll) ∧ Below w1.heap.size w1 w') := fun w1 => by
            have := ref_bytes L.toNat 4 (by omega) (by omega) w1
            rw [hll, show ((L.toNat : Nat) : Int) = L by omega] at this; exact this
          have HKK := Lib.hid hkk
          clear hkk hnn hll
          have q1 : IntKind.u8.wrap K = K := IntWalk.u8_in _ ⟨by omega, by omega⟩
          have q2 : IntKind.u64.wrap (i : Int) = (i : Int) := by rw [IntKind.wrap_u64]; omega
          have q3 : IntKind.u64.wrap L = L := by rw [IntKind.wrap_u64]; omega
          have eK : ((UInt8.ofNat K.toNat).toNat : Int) = K := by rw [toNat_ofNat8]; omega
          go_wp2_with fail
          refine wp_region_inv 17 (Cls (W)) (prP [fun u _ => u = .pointer (some ⟨w.heap.size, 0, none⟩), fun u _ => u = .int .i64 K, fun u _ => u = .int .u8 K, BV 2 [UInt8.ofNat K.toNat, 0], fun u _ => u = .string kk, fun u _ => u = .pointer (some ⟨w.heap.size, 2, none⟩), fun u _ => u = .slice A i c, fun u _ => u = .int .i64 i, fun u _ => u = .int .u64 i, fun u _ => u = .string nn, fun u _ => u = .string (kk ++ nn), fun u _ => u = .pointer (some ⟨w.heap.size, 1, none⟩), fun u _ => u = .int .i64 L, fun u _ => u = .int .u64 L, fun u _ => u = .string ll, fun u _ => u = .string (kk ++ nn ++ ll), fun u _ => u = .string (kk ++ nn ++ ll)]) (by kernel_rfl) (by kernel_rfl) (by kernel_rfl) (fun _ _ hC hb => Cls.step hC hb) ?hst (Cls.start _) ?hops ?hend
          case hst => exact prP_stable _ ⟨stab_eq _, stab_eq _, stab_eq _, BV_stable _ _, stab_eq _, stab_eq _, stab_eq _, stab_eq _, stab_eq _, stab_eq _, stab_eq _, stab_eq _, stab_eq _, stab_eq _, stab_eq _, stab_eq _, stab_eq _, trivial⟩
          case hops =>
            obtain ⟨a0, a1, a2⟩ := HX0.out.cells3
            have z3 := HX0.out.lt
            intro us wx hus hC
            obtain ⟨u0, u1, u2, u3, u4, u5, u6, u7, u8, u9, u10, u11, u12, u13, u14, u15, u16, rfl⟩ : ∃ u0 u1 u2 u3 u4 u5 u6 u7 u8 u9 u10 u11 u12 u13 u14 u15 u16, us = [u0, u1, u2, u3, u4, u5, u6, u7, u8, u9, u10, u11, u12, u13, u14, u15, u16] := by
              match us, hus with
              | [u0, u1, u2, u3, u4, u5, u6, u7, u8, u9, u10, u11, u12, u13, u14, u15, u16], _ => exact ⟨u0, u1, u2, u3, u4, u5, u6, u7, u8, u9, u10, u11, u12, u13, u14, u15, u16, rfl⟩
            clear hus
            simp only [fillA, Act.put, List.take_succ_cons, List.take_zero, List.setIfInBounds_toArray, List.set_cons_zero, List.set_cons_succ]
            refine ⟨fun h => ?_, fun h => ?_, fun h => ?_, fun h => ?_, fun h => ?_, fun h => ?_, fun h => ?_, fun h => ?_, fun h => ?_, fun h => ?_, fun h => ?_, fun h => ?_, fun h => ?_, fun h => ?_, fun h => ?_, fun h => ?_, fun h => ?_, trivial⟩
            · (clear h; refine good_plain rfl ?_; go_simp; exact ⟨Below.refl _ _, rfl⟩)
            · obtain rfl := h 0 rfl
              (clear h; refine good_plain rfl ?_; obtain ⟨hc, hf⟩ := hC.facts; go_simp; exact ⟨Below.refl _ _, rfl⟩)
            · obtain rfl := h 1 rfl
              (clear h; refine good_plain rfl ?_; go_simp; exact ⟨Below.refl _ _, rfl⟩)
            · obtain rfl := h 2 rfl
              clear h; refine good_plain rfl ?_; go_simp
              refine ⟨(Below.refl _ _).alloc (Nat.le_refl _) _, _, _, rfl, ?_⟩
              have := BS.of_has (Has.new wx 5 (u8s [UInt8.ofNat K.toNat, 0]).toArray)
              rw [show u8s [UInt8.ofNat K.toNat, 0] = [.int .u8 K, .int .u8 0] by simp only [u8s, u8v, List.map_cons, List.map_nil, eK]; rfl] at this
              exact this
            · obtain ⟨A3, c3, rfl, hB⟩ := h 3 rfl
              have hcv := conv_BS (c := c3) hB
              rw [HKK.out] at hcv
              clear h; refine good_plain rfl ?_; go_simp; exact ⟨Below.refl _ _, rfl⟩
            · (clear h; refine good_plain rfl ?_; go_simp; exact ⟨Below.refl _ _, rfl⟩)
            · obtain rfl := h 5 rfl
              (clear h; refine good_plain rfl ?_; obtain ⟨hc, hf⟩ := hC.facts; go_simp; exact ⟨Below.refl _ _, rfl⟩)
            · obtain rfl := h 6 rfl
              (clear h; refine good_plain rfl ?_; go_simp; exact ⟨Below.refl _ _, rfl⟩)
            · obtain rfl := h 7 rfl
              (clear h; refine good_plain rfl ?_; go_simp; exact ⟨Below.refl _ _, rfl⟩)
            · obtain rfl := h 8 rfl
              (clear h; refine good_plain rfl ?_; go_simp; refine (B2.out _).mono ?_; rintro e w1 ⟨rfl, hb⟩; exact ⟨_, rfl, hb, rfl⟩)
            · obtain rfl := h 4 rfl
              obtain rfl := h 9 rfl
              (clear h; refine good_plain rfl ?_; go_simp; exact ⟨Below.refl _ _, rfl⟩)
            · (clear h; refine good_plain rfl ?_; go_simp; exact ⟨Below.refl _ _, rfl⟩)
            · obtain rfl := h 11 rfl
              (clear h; refine good_plain rfl ?_; obtain ⟨hc, hf⟩ := hC.facts; go_simp; exact ⟨Below.refl _ _, rfl⟩)
            · obtain rfl := h 12 rfl
              (clear h; refine good_plain rfl ?_; go_simp; exact ⟨Below.refl _ _, rfl⟩)
            · obtain rfl := h 13 rfl
              (clear h; refine good_plain rfl ?_; go_simp; refine (B4.out _).mono ?_; rintro e w1 ⟨rfl, hb⟩; exact ⟨_, rfl, hb, rfl⟩)
            · obtain rfl := h 10 rfl
              obtain rfl := h 14 rfl
              (clear h; refine good_plain rfl ?_; go_simp; exact ⟨Below.refl _ _, rfl⟩)
            · obtain rfl := h 15 rfl
              (clear h; refine good_plain rfl ?_; go_simp; exact ⟨Below.refl _ _, rfl⟩)
          case hend =>
            intro us wx hus hC
            obtain ⟨u0, u1, u2, u3, u4, u5, u6, u7, u8, u9, u10, u11, u12, u13, u14, u15, u16, rfl⟩ : ∃ u0 u1 u2 u3 u4 u5 u6 u7 u8 u9 u10 u11 u12 u13 u14 u15 u16, us = [u0, u1, u2, u3, u4, u5, u6, u7, u8, u9, u10, u11, u12, u13, u14, u15, u16] := by
              match us, hus with
              | [u0, u1, u2, u3, u4, u5, u6, u7, u8, u9, u10, u11, u12, u13, u14, u15, u16], _ => exact ⟨u0, u1, u2, u3, u4, u5, u6, u7, u8, u9, u10, u11, u12, u13, u14, u15, u16, rfl⟩
            clear hus
            intro hall
            obtain ⟨h0, h1, h2, h3, h4, h5, h6, h7, h8, h9, h10, h11, h12, h13, h14, h15, h16, _⟩ := hall
            obtain rfl := h16
            have hHX := HX0.out.belowS hC.bel
            have hbw := Lib.hid (bel_step hb0.out hC.bel hb0.out.size)
            have HHX := Lib.hid hHX
            obtain ⟨a0, a1, a2⟩ := hHX.cells3
            have z3 := hHX.lt
            clear h0 h1 h2 h3 h4 h5 h6 h7 h8 h9 h10 h11 h12 h13 h14 h15 hC hHX B2 B4
            rw [HEAD.out]
            clear HEAD HKK z1 z2 z1' z2' q1 q2 q3 eK
            have hr2 : usedN cs ≤ 1012 := by omega
            have HR := Lib.hid hr2
            go_wp2_with fail
            go_loopw [7, 8, 56] (fun v7 v8 v56 wr => ∃ (j : Nat) (s7 s8 : ByteArray), j ≤ i ∧ v56 = .int .i64 j ∧ v7 = .string s7 ∧ v8 = .string s8 ∧ s7 = bsOf (headL K.toNat L.toNat cs.length ++ offsL cs j) ∧ s8 = bsOf (bodyL (cs.take j)) ∧ Below w.heap.size w wr) (fun _ _ v56 _ => i - (intOf v56).toNat)
            case atStart => exact ⟨0, _, _, Nat.zero_le _, rfl, rfl, rfl, by simp [offsL], rfl, hbw.out⟩
            case round =>
              clear a0 a1 a2 z3
              obtain ⟨j, s7, s8, hj, rfl, rfl, rfl, h7, h8, hbel⟩ := hrel
              have H7 := Lib.hid h7; have H8 := Lib.hid h8; have HB := Lib.hid hbel
              clear h7 h8 hbel
              by_cases h1 : j < i
              · have hl : j < cs.length := by rw [HH.out.1]; exact h1
                obtain ⟨b, off, rfl, hbl, hc⟩ := HH.out.2 (by omega)
                have c0 := hc j cs[j] (by simp [hl])
                obtain ⟨wc, wf⟩ := bcell HB.out
                have c1 : wr.cell? ⟨b, off + j, none⟩ = some (.string cs[j]) := (wc _ _ hbl).trans c0
                have z1 : b < wr.heap.size := by have := HB.out.size; omega
                have b1 := body_le HR.out (j + 1) (by omega)
                have b0 := body_le HR.out j (by omega)
                have b2 := bodyN_take cs hl
                have l7 : s7.size = 8 + 2 * j := by rw [H7.out, bsOf_size, List.length_append, headL_len, offsL_len]
                have l8 : s8.size = bodyN (cs.take j) := by rw [H8.out, bsOf_size, bodyL_len]
                obtain ⟨m, hm⟩ : ∃ m, cs[j].size = m := ⟨_, rfl⟩
                rw [hm] at b2
                obtain ⟨sm, hsm⟩ : ∃ s, bsOf (beK m 2) = s := ⟨_, rfl⟩
                have lsm : sm.size = 2 := by rw [← hsm, bsOf_size, beK_len]
                obtain ⟨E', hE'⟩ : ∃ E' : Nat, E' = 1024 - bodyN (cs.take (j + 1)) := ⟨_, rfl⟩
                obtain ⟨se, hse⟩ : ∃ s, bsOf (beK E' 2) = s := ⟨_, rfl⟩
                have lse : se.size = 2 := by rw [← hse, bsOf_size, beK_len]
                have e1 : (1024 : Int) - ((sm.size : Int) + (m : Int) + (s8.size : Int)) = (E' : Int) := by rw [lsm, l8]; omega
                have m1 : m ≤ 1012 := by omega
                have m2 : E' ≤ 1022 := by omega
                have m3 : sm.size + cs[j].size ≤ 9223372036854775807 := by omega
                have m4 : (sm ++ cs[j]).size + s8.size ≤ 9223372036854775807 := by rw [ByteArray.size_append]; omega
                have m5 : s7.size + se.size ≤ 9223372036854775807 := by omega
                have BM : Hid (∀ w1, Calls Try.prog 72 #[.int .u64 m, .int .i64 2] w1 fun e w' => e = .returned (.string sm) ∧ Below w1.heap.size w1 w') := fun w1 => by
                  have := ref_bytes m 2 (by omega) (by omega) w1
                  rw [hsm] at this; exact this
                have BE : Hid (∀ w1, Calls Try.prog 72 #[.int .u64 E', .int .i64 2] w1 fun e w' => e = .returned (.string se) ∧ Below w1.heap.size w1 w') := fun w1 => by
                  have := ref_bytes E' 2 (by omega) (by omega) w1
                  rw [hse] at this; exact this
                have n7 : s7 ++ se = bsOf (headL K.toNat L.toNat cs.length ++ offsL cs (j + 1)) := by
                  rw [H7.out, ← hse, bsOf_append, hE']; simp only [offsL, List.append_assoc]
                have n8 : sm ++ cs[j] ++ s8 = bsOf (bodyL (cs.take (j + 1))) := by
                  rw [H8.out, ← hsm, List.take_succ_eq_append_getElem hl, bodyL_snoc, hm, ← bsOf_append, ← bsOf_append, bsOf_of]
                have N7 := Lib.hid n7; have N8 := Lib.hid n8
                clear n7 n8
                clear wc wf c0 hc b0 b1 b2 l7 l8 hsm lsm hE' hse lse
                go_wp2_with (first | (go_at_call 72; (with_reducible refine (BM.out _).mono ?_); rintro e w1 ⟨rfl, hb1⟩) | (go_at_call 72; (with_reducible refine (BE.out _).mono ?_); rintro e w2 ⟨rfl, hb2⟩))
                go_roundw
                case rel => exact ⟨j + 1, _, _, by omega, by simp, rfl, rfl, N7.out, N8.out, bel_step (bel_step HB.out hb1 HB.out.size) hb2 (Nat.le_trans HB.out.size hb1.size)⟩
                case measure => simp [intOf]; omega
              · obtain rfl : j = i := by omega
                have u1 : usedN cs = bodyN cs + 2 * cs.length := used_body cs
                have tk : cs.take j = cs := by rw [← HH.out.1, List.take_length]
                have l7 : s7.size = 8 + 2 * j := by rw [H7.out, bsOf_size, List.length_append, headL_len, offsL_len]
                have l8 : s8.size = bodyN cs := by rw [H8.out, bsOf_size, bodyL_len, tk]
                have hF := HF.out
                have hj2 : cs.length = j := HH.out.1
                have hmk := make_bytes F (by omega) wr
                obtain ⟨sz, hsz⟩ : ∃ s, bsOf (List.replicate F 0) = s := ⟨_, rfl⟩
                have lsz : sz.size = F := by rw [← hsz, bsOf_size, List.length_replicate]
                have hcv := conv_BS (c := F) (made_zero F wr)
                rw [hsz] at hcv
                have m1 : s7.size + sz.size ≤ 9223372036854775807 := by omega
                have m2 : (s7 ++ sz).size + s8.size ≤ 9223372036854775807 := by rw [ByteArray.size_append]; omega
                have MID : s7 ++ sz ++ s8 = bsOf (midL K.toNat L.toNat cs cs.length) := by
                  rw [H7.out, H8.out, ← hsz, bsOf_append, bsOf_append, tk, ← sealRest HR.out, hF]
                  rw [hj2]
                obtain ⟨t, ht⟩ : ∃ t, s7 ++ sz ++ s8 = t := ⟨_, rfl⟩
                have lt : t.size = 1020 := by rw [← ht, MID, bsOf_size, midL_len HR.out (Nat.le_refl _)]
                rw [ht] at MID
                have SM : Hid (∀ w1, Calls Try.prog 35 #[.string t] w1 fun e w' => e = .returned (.int .u32 (crcN (midL K.toNat L.toNat cs cs.length) : Nat)) ∧ w1 = w') := fun w1 => by
                  have := ref_Sum t w1 (by omega)
                  rw [MID, bsOf_data] at this; rw [MID]; exact this
                obtain ⟨x, hx⟩ : ∃ x, crcN (midL K.toNat L.toNat cs cs.length) = x := ⟨_, rfl⟩
                have x1 := crcN_lt (midL K.toNat L.toNat cs cs.length)
                rw [hx] at x1 SM
                obtain ⟨sx, hsx⟩ : ∃ s, bsOf (beK x 4) = s := ⟨_, rfl⟩
                have lsx : sx.size = 4 := by rw [← hsx, bsOf_size, beK_len]
                have BX : Hid (∀ w1, Calls Try.prog 72 #[.int .u64 x, .int .i64 4] w1 fun e w' => e = .returned (.string sx) ∧ Below w1.heap.size w1 w') := fun w1 => by
                  have := ref_bytes x 4 (by omega) (by omega) w1
                  rw [hsx] at this; exact this
                have m3 : sx.size + t.size ≤ 9223372036854775807 := by omega
                have ANS : Hid (Ending.returned (.tuple #[.string (sx ++ t), .int .i64 0]) = .returned (.tuple #[.string (sealS K L cs), .int .i64 (sealE K L cs)])) := by
                  have q1 : ¬ (K < 1 ∨ 5 < K ∨ L < 0 ∨ 2147483647 < L) := by omega
                  show _ = _
                  rw [sealS, sealE, if_neg (by omega), if_neg q1, if_neg (by omega), ← hsx, MID, bsOf_append, ← hx]
                  exact rfl
                clear u1 tk l7 l8 hF hj2 hsz lsz lt MID hx hsx lsx
                go_wp2_with (first | (go_at_call 35; (refine (SM.out _).mono ?_); rintro e w1 ⟨rfl, rfl⟩) | (go_at_call 72; (refine (BX.out _).mono ?_); rintro e w2 ⟨rfl, hb2⟩))
                go_ret2
                exact ⟨ANS.out, bel_step (HB.out.alloc HB.out.size _) hb2 (Nat.le_trans HB.out.size (by simp))⟩

end Go.Proofs.Ytlkkpgdgnnknpaa
