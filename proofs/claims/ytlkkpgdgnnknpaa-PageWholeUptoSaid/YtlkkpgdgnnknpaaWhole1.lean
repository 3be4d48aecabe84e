/-
  The walk of relstorekeep.PageWhole.
-/
import Derived.Test.YtlkkpgdgnnknpaaWhole0
import Derived.WalkLawsBesides
namespace Go.Proofs.Ytlkkpgdgnnknpaa
open Go.RowKit
open Go.BigFrame
set_option linter.unusedVariables false
attribute [local go_sem] OpGood goodUpon fillA Act.put

theorem sealE_cases (K L : Int) (cs : List ByteArray) : (sealE K L cs = 0 ∧ ∃ k l : Nat, K = k ∧ L = l ∧ Valid (sealS K L cs) (k, l, cs)) ∨ ((sealE K L cs = 1 ∨ sealE K L cs = 5) ∧ sealS K L cs = ⟨#[]⟩) := by
  unfold sealE sealS
  split
  · rename_i h; exact .inr ⟨.inl rfl, if_pos (.inl h)⟩
  · rename_i h
    split
    · rename_i h2; exact .inr ⟨.inr rfl, if_pos (.inr h2)⟩
    · rename_i h2
      refine .inl ⟨rfl, K.toNat, L.toNat, by omega, by omega, by simp; omega, by simp; omega, by simp; omega, by simp; omega, ?_⟩
      rw [if_neg (by omega)]
theorem ba_empty : ((⟨#[]⟩ : ByteArray).toList == (⟨#[]⟩ : ByteArray).toList) = true := by simp

set_option maxRecDepth 100000 in
set_option maxHeartbeats 6400000 in
theorem keep_PageWhole (K L : Int) (A : Option Addr) (n c : Nat) (cs : List ByteArray) (p q : Int) (w : World) (h : SS w A n cs) (hn : n ≤ 4194304) (hu : usedN cs ≤ 8388608) (hp : (Lit.int .i64 p).wf = true) (hq : (Lit.int .i64 q).wf = true) :
    Calls Try.prog 7 #[.agg #[.int .i64 K, .int .i64 L, .slice A n c], .int .i64 p, .int .i64 q] w fun e w' => e = .returned (.bool true) ∧ Below w.heap.size w w' := by
  have hb0 := Lib.hid (below_mkP w (.cells #[.int .i64 K, .int .i64 L, .slice A n c] 40))
  have hP := Lib.hid (Has.new w 40 #[.int .i64 K, .int .i64 L, .slice A n c])
  have HS := Lib.hid h
  obtain ⟨s, hs⟩ : ∃ s, sealS K L cs = s := ⟨_, rfl⟩
  obtain ⟨x, hx⟩ : ∃ x, sealE K L cs = x := ⟨_, rfl⟩
  have T1 := Lib.hid (fun A n c w h hn => page_Seal K L A n c cs w h hn hu)
  have HC := sealE_cases K L cs
  rw [hs, hx] at T1 HC
  clear hs hx h
  rcases HC with ⟨rfl, k, l, rfl, rfl, hv⟩ | ⟨hx, rfl⟩
  · have hu2 : usedN cs ≤ 1012 := hv.2.2.2.1
    have hsz : s.size = 1024 := by rw [← hv.2.2.2.2, bsOf_size]; exact sealL_len hu2
    have hlen := HS.out.1
    have T2 : Hid (∀ w, Calls Try.prog 31 #[.string s] w (OpenAt w k l 0 n cs)) := fun w => (page_Open s (by omega) w).mono fun e w' ho => by
      rw [openP_valid.2 hv] at ho
      obtain ⟨A, c, h1, h2, h3⟩ := ho
      subst hlen
      exact ⟨A, c, h1, h2, h3⟩
    clear hlen
    have HV := Lib.hid hv
    clear hv hu hu2
    go_enter Try.func7, Try.ntmps7
    go_wp2_with fail
    refine (T1.out _ _ _ _ (HS.out.keep hb0.out) hn).mono ?_
    rintro e w1 ⟨rfl, hb1⟩
    have hP1 := Lib.hid (hP.out.belowS hb1)
    have HB1 := Lib.hid (bel_step hb0.out hb1 hb0.out.size)
    have HS1 := Lib.hid ((HS.out.keep hb0.out).keep hb1)
    clear hb1 hP hb0 HS
    go_wp2_with fail
    refine (T2.out _).mono ?_
    rintro e w2 ⟨B, d, rfl, hs2, hb2⟩
    have HB2 := Lib.hid ((bel_step HB1.out hb2 HB1.out.size).alloc (Nat.le_trans HB1.out.size hb2.size) (.cells #[.int .i64 k, .int .i64 l, .slice B n d] 40))
    have hP2 := Lib.hid ((hP1.out.belowS hb2).alloc (.cells #[.int .i64 k, .int .i64 l, .slice B n d] 40))
    have HS2 := Lib.hid ((HS1.out.keep hb2).keep (below_mkP w2 (.cells #[.int .i64 k, .int .i64 l, .slice B n d] 40)))
    have HQ2 := Lib.hid (hs2.keep (below_mkP w2 (.cells #[.int .i64 k, .int .i64 l, .slice B n d] 40)))
    have hG2 := Lib.hid (Has.new w2 40 #[.int .i64 k, .int .i64 l, .slice B n d])
    have z0 : w.heap.size < w2.heap.size := by have := hP1.out.lt; have := hb2.size; omega
    clear hs2 hb2 hP1 HB1 HS1
    obtain ⟨p0, p1, p2⟩ := hP2.out.cells3
    have z1 := hP2.out.lt
    obtain ⟨q0, q1, q2⟩ := hG2.out.cells3
    have z2 := hG2.out.lt
    go_wp2_with fail
    clear p0 p1 p2 z1 q0 q1 q2 z2
    generalize w2.alloc (.cells #[.int .i64 k, .int .i64 l, .slice B n d] 40) = W at *
    go_loopw [12, 73] (fun _ i wr => ∃ k : Nat, k ≤ n ∧ i = .int .i64 k ∧ Below W.heap.size W wr) (fun _ i _ => n - (intOf i).toNat)
    case atStart => exact ⟨0, Nat.zero_le _, rfl, Below.refl _ _⟩
    case round =>
      obtain ⟨i, hi, rfl, hbel⟩ := hrel
      by_cases h1 : i < n
      · obtain ⟨b, off, rfl, hbl, hc⟩ := HS2.out.2 (by omega)
        obtain ⟨b', off', rfl, hbl', hc'⟩ := HQ2.out.2 (by omega)
        have hl : i < cs.length := by rw [HS2.out.1]; exact h1
        have a0 := hc i cs[i] (by simp [hl])
        have b0 := hc' i cs[i] (by simp [hl])
        obtain ⟨p0, p1, p2⟩ := hP2.out.cells3
        have z1 := hP2.out.lt
        obtain ⟨q0, q1, q2⟩ := hG2.out.cells3
        have z2 := hG2.out.lt
        obtain ⟨wc, wf⟩ := bcell hbel
        have z3 : b < wr.heap.size := by have := hbel.size; omega
        have z4 : b' < wr.heap.size := by have := hbel.size; omega
        have z5 : w.heap.size < wr.heap.size := by have := hbel.size; omega
        have z6 : w2.heap.size < wr.heap.size := by have := hbel.size; omega
        clear hc hc'
        go_wp2_with fail
        refine wp_region_cls (wr) (by kernel_rfl) (by kernel_rfl) (Cls.start _) ?_
        repeat
          refine wpQuiet_step (fun K hK => ?_)
          go_simp
          first
            | (refine hK _ ?_; clear hK K)
            | (apply Exists.intro; refine ⟨fun w' hw' => ?_, hK _ ?_⟩; (· (first | (with_reducible exact rfl) | (fail) | (obtain ⟨hc, hf⟩ := hw'.facts; go_simp; first | done | (with_reducible exact rfl) | (with_reducible exact ⟨rfl, rfl⟩)))); clear hK K)
        refine wpQuiet_nil ?_
        intro wq hq
        have hb2 := bel_step hbel hq hbel.size
        go_wp2_with fail
        go_roundw
        case rel => exact ⟨i + 1, by omega, by go_num, hb2⟩
        case measure => simp [intOf]; omega
      · obtain ⟨cc, w5, hcv, hcc, hbuf, hb5⟩ := conv_new s wr
        have HBUF := Lib.hid hbuf
        have HB5 := Lib.hid (bel_step (bel_step HB2.out hbel HB2.out.size) hb5 (bel_step HB2.out hbel HB2.out.size).size)
        rw [hsz] at hcv hcc
        clear hbuf hb5
        go_wp2_with fail
        have P1 := Lib.hid (fun w1 => keep_pick p 1024 hp (by omega) (by omega) w1)
        have P2 := Lib.hid (fun w1 => keep_pick q 255 hq (by omega) (by omega) w1)
        have l1 := pickN_lt p (n := 1024) (by omega)
        have l2 := pickN_lt q (n := 255) (by omega)
        obtain ⟨a, ha⟩ : ∃ a, pickN p 1024 = a := ⟨_, rfl⟩
        obtain ⟨j, hj⟩ : ∃ j, pickN q 255 = j := ⟨_, rfl⟩
        rw [ha] at P1 l1
        rw [hj] at P2 l2
        clear ha hj hcv
        have hal : a < s.data.toList.length := by simpa [hsz] using l1
        obtain ⟨b, hb⟩ : ∃ b, s.data.toList[a] = b := ⟨_, rfl⟩
        have hb' : s.data.toList[a]? = some b := by rw [List.getElem?_eq_getElem hal, hb]
        obtain ⟨m, hm⟩ : ∃ m, 1 + j = m := ⟨_, rfl⟩
        have m1 : (1 : Int) + (j : Int) = (m : Int) := by omega
        have m2 : m < 256 := by omega
        have m3 : 0 < m := by omega
        have lb := byte_lt b
        have i1 : IntKind.i64.wrap (m : Int) = (m : Int) := IntWalk.i64_in _ ⟨by omega, by omega⟩
        have i2 : IntKind.u8.wrap (m : Int) = (m : Int) := by rw [IntKind.wrap_u8']; omega
        have i3 := u8_xor_nat b.toNat m lb m2
        obtain ⟨y, hy⟩ : ∃ y, UInt8.ofNat (b.toNat ^^^ m) = y := ⟨_, rfl⟩
        have i4 : ((b.toNat ^^^ m : Nat) : Int) = (y.toNat : Int) := by
          have hx : b.toNat ^^^ m < 2 ^ 8 := Nat.xor_lt_two_pow (by omega) (by omega)
          rw [← hy, UInt8.toNat_ofNat', Nat.mod_eq_of_lt hx]
        rw [i4] at i3
        have hyb : y ≠ s.data.toList[a] := by rw [hb, ← hy]; exact xor_other m3 m2
        have ANS := Lib.hid (openP_told (openP_valid.2 HV.out) hal hyb)
        have i5 : (a : Int) < 1024 := by omega
        have WR := Lib.hid (show wr.heap.size < w5.heap.size from HBUF.out.lt)
        clear hb hy i4 hyb hm
        refine wp_region_inv 13 (Cls (w5)) (prP [fun u _ => u = .slice (some ⟨wr.heap.size, 0, none⟩) 1024 cc, fun u _ => u = .int .i64 p, fun u _ => u = .slice (some ⟨wr.heap.size, 0, none⟩) 1024 cc, fun u _ => u = .int .i64 1024, fun u _ => u = .int .i64 a, fun u _ => u = .pointer (some ⟨wr.heap.size, a, none⟩), fun u _ => u = .int .u8 b.toNat, fun u _ => u = .int .i64 q, fun u _ => u = .int .i64 j, fun u _ => u = .int .i64 m, fun u _ => u = .int .u8 m, fun u _ => u = .int .u8 y.toNat, fun u _ => u = .pointer (some ⟨wr.heap.size, a, none⟩)]) (by kernel_rfl) (by kernel_rfl) (by kernel_rfl) (fun _ _ hC hb => Cls.step hC hb) ?hst (Cls.start _) ?hops ?hend
        case hst => exact prP_stable _ ⟨stab_eq _, stab_eq _, stab_eq _, stab_eq _, stab_eq _, stab_eq _, stab_eq _, stab_eq _, stab_eq _, stab_eq _, stab_eq _, stab_eq _, stab_eq _, trivial⟩
        case hops =>
          have c0 := HBUF.out.cell hb'
          have z1 := HBUF.out.lt
          intro us wx hus hC
          obtain ⟨u0, u1, u2, u3, u4, u5, u6, u7, u8, u9, u10, u11, u12, rfl⟩ : ∃ u0 u1 u2 u3 u4 u5 u6 u7 u8 u9 u10 u11 u12, us = [u0, u1, u2, u3, u4, u5, u6, u7, u8, u9, u10, u11, u12] := by
            match us, hus with
            | [u0, u1, u2, u3, u4, u5, u6, u7, u8, u9, u10, u11, u12], _ => exact ⟨u0, u1, u2, u3, u4, u5, u6, u7, u8, u9, u10, u11, u12, rfl⟩
          clear hus
          simp only [fillA, Act.put, List.take_succ_cons, List.take_zero, List.setIfInBounds_toArray, List.set_cons_zero, List.set_cons_succ]
          refine ⟨fun h => ?_, fun h => ?_, fun h => ?_, fun h => ?_, fun h => ?_, fun h => ?_, fun h => ?_, fun h => ?_, fun h => ?_, fun h => ?_, fun h => ?_, fun h => ?_, fun h => ?_, trivial⟩
          · (clear h; refine good_plain rfl ?_; go_simp; exact ⟨Below.refl _ _, rfl⟩)
          · (clear h; refine good_plain rfl ?_; go_simp; exact ⟨Below.refl _ _, rfl⟩)
          · (clear h; refine good_plain rfl ?_; go_simp; exact ⟨Below.refl _ _, rfl⟩)
          · obtain rfl := h 2 rfl
            (clear h; refine good_plain rfl ?_; go_simp; exact ⟨Below.refl _ _, rfl⟩)
          · obtain rfl := h 1 rfl
            obtain rfl := h 3 rfl
            (clear h; refine good_plain rfl ?_; go_simp; refine (P1.out _).mono ?_; rintro e w1 ⟨rfl, rfl⟩; exact ⟨_, rfl, Below.refl _ _, rfl⟩)
          · obtain rfl := h 0 rfl
            obtain rfl := h 4 rfl
            (clear h; refine good_plain rfl ?_; go_simp; exact ⟨Below.refl _ _, rfl⟩)
          · obtain rfl := h 5 rfl
            (clear h; refine good_plain rfl ?_; obtain ⟨hc, hf⟩ := hC.facts; go_simp; exact ⟨Below.refl _ _, rfl⟩)
          · (clear h; refine good_plain rfl ?_; go_simp; exact ⟨Below.refl _ _, rfl⟩)
          · obtain rfl := h 7 rfl
            (clear h; refine good_plain rfl ?_; go_simp; refine (P2.out _).mono ?_; rintro e w1 ⟨rfl, rfl⟩; exact ⟨_, rfl, Below.refl _ _, rfl⟩)
          · obtain rfl := h 8 rfl
            (clear h; refine good_plain rfl ?_; go_simp; exact ⟨Below.refl _ _, rfl⟩)
          · obtain rfl := h 9 rfl
            (clear h; refine good_plain rfl ?_; go_simp; exact ⟨Below.refl _ _, rfl⟩)
          · obtain rfl := h 6 rfl
            obtain rfl := h 10 rfl
            (clear h; refine good_plain rfl ?_; go_simp; exact ⟨Below.refl _ _, rfl⟩)
          · obtain rfl := h 0 rfl
            obtain rfl := h 4 rfl
            (clear h; refine good_plain rfl ?_; go_simp; exact ⟨Below.refl _ _, rfl⟩)
        case hend =>
          intro us wx hus hC
          obtain ⟨u0, u1, u2, u3, u4, u5, u6, u7, u8, u9, u10, u11, u12, rfl⟩ : ∃ u0 u1 u2 u3 u4 u5 u6 u7 u8 u9 u10 u11 u12, us = [u0, u1, u2, u3, u4, u5, u6, u7, u8, u9, u10, u11, u12] := by
            match us, hus with
            | [u0, u1, u2, u3, u4, u5, u6, u7, u8, u9, u10, u11, u12], _ => exact ⟨u0, u1, u2, u3, u4, u5, u6, u7, u8, u9, u10, u11, u12, rfl⟩
          clear hus
          intro hall
          obtain ⟨h0, h1, h2, h3, h4, h5, h6, h7, h8, h9, h10, h11, h12, _⟩ := hall
          obtain rfl := h11
          obtain rfl := h12
          clear h0 h1 h2 h3 h4 h5 h6 h7 h8 h9 h10
          have hbx := HBUF.out.keep hC.bel
          have HB6 := Lib.hid ((bel_step HB5.out hC.bel HB5.out.size).setCell (p := ⟨wr.heap.size, a, none⟩) (by have := (bel_step HB2.out hbel HB2.out.size).size; simpa using this) (u8v y))
          have cx := hbx.cell hb'
          have fx := hbx.frozen hal
          have hbs := (hbx.set a y).BS
          have hsl : (s.data.toList.set a y).length = 1024 := by rw [List.length_set, Array.length_toList]; exact hsz
          rw [hsl] at hbs
          have hcv := conv_BS (c := cc) hbs
          have T6 := Lib.hid (fun w => page_Open (bsOf (s.data.toList.set a y)) (by rw [bsOf_size, hsl]; omega) w)
          rw [ANS.out] at T6
          obtain ⟨t, ht⟩ : ∃ t, bsOf (s.data.toList.set a y) = t := ⟨_, rfl⟩
          rw [ht] at hcv T6
          unfold u8v at cx hcv HB6
          clear hbx hbs hsl ht hC
          go_wp2_with fail
          refine (T6.out _).mono ?_
          rintro e w9 ⟨rfl, hb9⟩
          have HB9 := Lib.hid (bel_step HB6.out hb9 HB6.out.size)
          go_wp2_with fail
          go_ret
          exact ⟨rfl, HB9.out⟩
  · have T3 := Lib.hid (fun w => page_Seal 1 0 none 0 0 [] w ⟨rfl, fun h => absurd h (by omega)⟩ (by omega) (by simp [usedN]))
    have e0 : sealE 1 0 [] = 0 := by simp [sealE, usedN]
    rw [e0] at T3
    obtain ⟨t, ht⟩ : ∃ t, sealS 1 0 [] = t := ⟨_, rfl⟩
    rw [ht] at T3
    clear ht e0
    rcases hx with rfl | rfl
    all_goals
      go_enter Try.func7, Try.ntmps7
      go_wp2_with fail
      refine (T1.out _ _ _ _ (HS.out.keep hb0.out) hn).mono ?_
      rintro e w1 ⟨rfl, hb1⟩
      have HB1 := Lib.hid (bel_step hb0.out hb1 hb0.out.size)
      go_wp2_with fail
      refine (T3.out _).mono ?_
      rintro e w2 ⟨rfl, hb2⟩
      have HB2 := Lib.hid (bel_step HB1.out hb2 HB1.out.size)
      go_wp2_with fail
      go_ret
      exact ⟨rfl, HB2.out⟩

end Go.Proofs.Ytlkkpgdgnnknpaa
