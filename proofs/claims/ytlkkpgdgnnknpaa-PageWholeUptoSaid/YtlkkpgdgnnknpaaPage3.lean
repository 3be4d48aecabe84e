/-
  page.Used, page.Seal.
-/
import Derived.Test.YtlkkpgdgnnknpaaPage2
import Derived.Test.YtlkkpgdgnnknpaaInv
import Derived.Lib.BufferWrite
import Derived.Lib.SlBuf
import Derived.IntWalk
namespace Go.Proofs.Ytlkkpgdgnnknpaa
open Go.RowKit
open Go.BigFrame
set_option linter.unusedVariables false
attribute [local go_sem] OpGood goodUpon fillA Act.put

/-- the slice value '.slice A n c' reads as these texts -/
def SS (w : World) (A : Option Addr) (n : Nat) (l : List ByteArray) : Prop :=
  l.length = n ∧ (0 < n → ∃ b off, A = some ⟨b, off, none⟩ ∧ b < w.heap.size ∧ ∀ i v, l[i]? = some v → w.cell? ⟨b, off + i, none⟩ = some (.string v))
theorem SS.keep {w w' : World} {A : Option Addr} {n : Nat} {l : List ByteArray} (h : SS w A n l) (hb : Below w.heap.size w w') : SS w' A n l :=
  ⟨h.1, fun hn => by
    obtain ⟨b, off, hA, hl, hc⟩ := h.2 hn
    exact ⟨b, off, hA, Nat.lt_of_lt_of_le hl hb.size, fun i v hv => (hb.cell (p := ⟨b, off + i, none⟩) hl).trans (hc i v hv)⟩⟩

set_option maxHeartbeats 400000 in
theorem page_Used (A : Option Addr) (n c : Nat) (cs : List ByteArray) (w : World) (h : SS w A n cs) (hn : n ≤ 4194304) (hu : usedN cs ≤ 8388608) :
    Calls Try.prog 28 #[.slice A n c] w fun e w' => e = .returned (.int .i64 (usedN cs : Nat)) ∧ w = w' := by
  go_enter Try.func28, Try.ntmps28
  go_wp2_with fail
  go_loop [3, 8] (fun v3 v8 => ∃ i : Nat, i ≤ n ∧ v8 = .int .i64 i ∧ v3 = .int .i64 (usedN (cs.take i) : Nat)) (fun _ v8 => n - (intOf v8).toNat)
  case atStart => exact ⟨0, Nat.zero_le _, rfl, rfl⟩
  case round =>
    obtain ⟨i, hi, rfl, rfl⟩ := hrel
    by_cases h1 : i < n
    · obtain ⟨b, off, rfl, hb, hc⟩ := h.2 (by omega)
      have hl : i < cs.length := by rw [h.1]; exact h1
      have c0 := hc i cs[i] (by simp [hl])
      have E := Lib.hid (usedN_take cs hl)
      have x1 := usedN_take_le cs (i + 1)
      rw [E.out] at x1
      obtain ⟨x, hx⟩ : ∃ x, usedN (cs.take i) = x := ⟨_, rfl⟩
      rw [hx] at x1
      have HX := Lib.hid hx
      rw [hx]
      clear hx hc
      have x2 : x ≤ 8388608 := by omega
      have x3 : cs[i].size ≤ 8388608 := by omega
      go_wp2_with fail
      go_round
      case rel => exact ⟨i + 1, by omega, by simp, by rw [E.out, HX.out]; simp⟩
      case measure => simp [intOf]; omega
    · obtain rfl : i = n := by omega
      have E := Lib.hid (show ((usedN (cs.take i) : Nat) : Int) = (usedN cs : Nat) by rw [← h.1, List.take_length])
      go_wp2_with fail
      go_ret
      exact ⟨ret_int E.out, rfl⟩

theorem u8s_splice (L : List UInt8) (o : Nat) (x : List UInt8) : splice (u8s L) o (u8s x) = u8s (splice L o x) := by
  simp [splice, u8s, List.map_take, List.map_drop]
theorem wpList_copy_BS {P : Program} {w : World} {ops : Array Oper} {rest : List Oper} {o : Oper} {a : Act} {Q : Exit → Act → World → Prop} (hgd : o.guard = none) (d s : Operand) (dT sT : TypeId)
    (ho : o.op = .call { callee := .builtin .copy, args := #[d, s], argTypes := #[dT, sT] }) (elem : TypeId) (hu : P.underlying dT = some (.slice elem)) (hsz : (P.info? elem).map (·.size) = some 1)
    (dp : Option Addr) (dLen dCap : Nat) (A : Option Addr) (m c : Nat) (hd : a.eval d = .slice dp dLen dCap) (hs : a.eval s = .slice A m c) (l : List UInt8) (hl : BS w A m l)
    (g off : Nat) (cur : List UInt8) (t : TypeId) (hg : Has w g t (u8s cur).toArray) (hdp : 0 < m → dp = some ⟨g, off, none⟩) (hle : m ≤ dLen) (hfit : off + m ≤ cur.length)
    (h : ∀ w', Has w' g t (u8s (splice cur off l)).toArray → Below g w w' → wpList P ops Q rest (a.put o.dst (goInt m)) w') : wpList P ops Q (o :: rest) a w := by
  have hlen : (u8s l).length = m := by rw [u8s_len, hl.1]
  refine wpList_copy_splice hgd d s dT sT ho elem hu hsz dp A dLen dCap m c hd hs g off (u8s cur) t hg (u8s l) (by rw [hlen]; exact (Nat.min_eq_left hle).symm) (fun h0 => ?_) (by rw [hlen, u8s_len]; exact hfit) u8s_one g w (Below.refl _ _) (Nat.le_refl _) (fun w' hw hb => ?_)
  · rw [hlen] at h0
    obtain ⟨b, of, hA, hbl, hc⟩ := hl.2 h0
    refine ⟨hdp h0, ⟨b, of, none⟩, hA, fun j v hj => ?_⟩
    rw [addr_add]
    rw [u8s_get] at hj
    obtain ⟨x, hx, rfl⟩ := Option.map_eq_some_iff.1 hj
    exact hc j x hx
  · have hw' := hw.out
    rw [u8s_splice] at hw'
    rw [hlen]
    exact h w' hw' hb
theorem run_copy_str {P : Program} {w : World} (dT sT ty : TypeId) (elem : TypeId) (hu : P.underlying dT = some (.slice elem)) (hsz : (P.info? elem).map (·.size) = some 1)
    (dp : Option Addr) (dLen dCap : Nat) (x : ByteArray) (g off : Nat) (cur : List UInt8) (t : TypeId) (hg : Has w g t (u8s cur).toArray) (hdp : 0 < x.size → dp = some ⟨g, off, none⟩) (hle : x.size ≤ dLen) (hfit : off + x.size ≤ cur.length) :
    ∃ w', (Builtin.copy_ #[dT, sT] ty #[.slice dp dLen dCap, .string x]).run P w = .ok (goInt x.size) w' ∧ Has w' g t (u8s (splice cur off x.data.toList)).toArray ∧ Below g w w' := by
  have hxl : x.data.toList.length = x.size := by simp
  rcases Nat.eq_zero_or_pos x.size with h0 | h0
  · have hr := Lib.run_copy_empty_string (P := P) w dT sT ty elem dp dLen dCap x hu (by rw [hsz]; rfl) h0
    have hx : x.data.toList = [] := List.eq_nil_of_length_eq_zero (by rw [hxl]; exact h0)
    exact ⟨w, by rw [h0]; exact hr, by rw [hx, splice_zero]; exact hg, Below.refl _ _⟩
  · obtain rfl := hdp h0
    have hr := Lib.run_copy_row_string (P := P) w dT sT ty elem g off dLen dCap x _ t hu hsz hg hle (by simpa [u8s_len] using hfit)
    refine ⟨_, hr, ?_, below_setRow (Below.refl g w) (Nat.le_refl _) _⟩
    have he : ((u8s cur).toArray.toList.take off ++ Lib.byteCells x.data.toList ++ (u8s cur).toArray.toList.drop (off + x.size)) = u8s (splice cur off x.data.toList) := by
      rw [← u8s_splice, splice, show (Lib.byteCells x.data.toList) = u8s x.data.toList from rfl, u8s_len, hxl]
      simp
    rw [he]
    exact setRow_heap w g _ _ t (0, 0) hg
theorem slice77 (g o : Nat) (h : o < 1024) (w : World) : (Instr.sliceAt 77 (.pointer (some ⟨g, 0, none⟩)) (some (.int .i64 o)) none none).run Try.prog w = .ok (.slice (some ⟨g, o, none⟩) (1024 - o) (1024 - o)) w := by
  have h1 : (0 : Int) ≤ (o : Int) := by omega
  have h2 : (o : Int) ≤ 1024 := by omega
  have h3 : ¬ 1024 = o := by omega
  go_simp
theorem slice77_end (g : Nat) (w : World) : (Instr.sliceAt 77 (.pointer (some ⟨g, 0, none⟩)) (some (.int .i64 1024)) none none).run Try.prog w = .ok (.slice (some ⟨g, 0, none⟩) 0 0) w := by
  go_simp
theorem slice77_any (g o m : Nat) (h : o + m ≤ 1024) : ∃ dp k, (∀ w, (Instr.sliceAt 77 (.pointer (some ⟨g, 0, none⟩)) (some (.int .i64 o)) none none).run Try.prog w = .ok (.slice dp k k) w) ∧ (0 < m → dp = some ⟨g, o, none⟩) ∧ m ≤ k := by
  by_cases h1 : o < 1024
  · exact ⟨_, _, slice77 g o h1, fun _ => rfl, by omega⟩
  · obtain rfl : o = 1024 := by omega
    exact ⟨_, _, slice77_end g, fun h => by omega, by omega⟩

theorem BS.of_drop {w : World} {g : Nat} {t : TypeId} {L m : List UInt8} {n : Nat} (h : Has w g t (u8s L).toArray) (o : Nat) (hn : L.length = o + n) (hm : L.drop o = m) : BS w (some ⟨g, o, none⟩) n m := by
  subst hm
  refine ⟨by rw [List.length_drop]; omega, fun _ => ⟨g, o, rfl, h.lt, fun i v hv => ?_⟩⟩
  rw [h.cell]
  rw [List.getElem?_drop] at hv
  simp [u8s_get, hv]
/-- values that are known, then one of which R holds -/
def eqP : List Value → (Value → World → Prop) → Nat → Value → World → Prop
  | [], R, 0, u, w => R u w
  | [], _, _ + 1, _, _ => True
  | v :: _, _, 0, u, _ => u = v
  | _ :: vs, R, j + 1, u, w => eqP vs R j u w
theorem eqP_stable {R : Value → World → Prop} (hR : ∀ u (w w' : World), Below w.heap.size w w' → R u w → R u w') : ∀ (vs : List Value) j u (w w' : World), Below w.heap.size w w' → eqP vs R j u w → eqP vs R j u w'
  | [], 0, u, w, w', hb, h => hR u w w' hb h
  | [], _ + 1, _, _, _, _, h => h
  | _ :: _, 0, _, _, _, _, h => h
  | _ :: vs, j + 1, u, w, w', hb, h => eqP_stable hR vs j u w w' hb h
/-- a slice of m bytes that reads as l -/
def BV (m : Nat) (l : List UInt8) (u : Value) (w : World) : Prop := ∃ A c, u = .slice A m c ∧ BS w A m l
theorem BV_stable (m : Nat) (l : List UInt8) : ∀ u (w w' : World), Below w.heap.size w w' → BV m l u w → BV m l u w' := fun _ _ _ hb ⟨A, c, e, h⟩ => ⟨A, c, e, h.keep hb⟩
theorem page_twoV (n : Nat) (hn : n ≤ 9223372036854775807) (w : World) : Calls Try.prog 69 #[.int .i64 n] w fun e w' => ∃ u, e = .returned u ∧ Below w.heap.size w w' ∧ BV 2 (beK n 2) u w' :=
  (page_two n hn w).mono fun e w' ⟨g, he, hh, hb, _⟩ => ⟨_, he, hb, _, _, rfl, by have := BS.of_has hh; rwa [beK_len] at this⟩
theorem page_fourV (n : Nat) (hn : n ≤ 4294967295) (w : World) : Calls Try.prog 70 #[.int .i64 n] w fun e w' => ∃ u, e = .returned u ∧ Below w.heap.size w w' ∧ BV 4 (beK n 4) u w' :=
  (page_four n hn w).mono fun e w' ⟨A, c, he, hh, hb⟩ => ⟨_, he, hb, A, c, by rw [beK_len], by rwa [beK_len] at hh⟩

theorem sizeByte : (Try.prog.info? 5).map (·.size) = some 1 := by kernel_rfl
theorem u8s_set (l : List UInt8) (i : Nat) (b : UInt8) : (u8s l).toArray.setIfInBounds i (u8v b) = (u8s (l.set i b)).toArray := by simp [u8s, List.map_set]
theorem u8s_set0 (K : Int) (h0 : 0 ≤ K) (h1 : K ≤ 255) : (u8s (List.replicate 1024 0)).toArray.setIfInBounds 4 (.int .u8 K) = (u8s ((List.replicate 1024 0).set 4 (UInt8.ofNat K.toNat))).toArray := by
  have e : Value.int .u8 K = u8v (UInt8.ofNat K.toNat) := by unfold u8v; rw [toNat_ofNat8]; congr 1; omega
  rw [e, u8s_set]
theorem zeros77 : Try.zeroCells77 = (u8s (List.replicate 1024 0)).toArray := by kernel_rfl

/-- what Seal answers -/
def sealS (K L : Int) (cs : List ByteArray) : ByteArray := if (K < 1 ∨ 5 < K ∨ L < 0 ∨ 2147483647 < L) ∨ 1012 < usedN cs then ⟨#[]⟩ else bsOf (sealL K.toNat L.toNat cs)
def sealE (K L : Int) (cs : List ByteArray) : Int := if K < 1 ∨ 5 < K ∨ L < 0 ∨ 2147483647 < L then 1 else if 1012 < usedN cs then 5 else 0

set_option maxRecDepth 100000 in
set_option maxHeartbeats 3200000 in
theorem page_Seal (K L : Int) (A : Option Addr) (n c : Nat) (cs : List ByteArray) (w : World) (h : SS w A n cs) (hn : n ≤ 4194304) (hu : usedN cs ≤ 8388608) :
    Calls Try.prog 27 #[.agg #[.int .i64 K, .int .i64 L, .slice A n c]] w fun e w' => e = .returned (.tuple #[.string (sealS K L cs), .int .i64 (sealE K L cs)]) ∧ Below w.heap.size w w' := by
  have hb0 := Lib.hid (show Below w.heap.size w (w.alloc (.cells #[.int .i64 K, .int .i64 L, .slice A n c] 40)) from (Below.refl _ _).alloc (Nat.le_refl _) _)
  by_cases hk : K < 1 ∨ 5 < K ∨ L < 0 ∨ 2147483647 < L
  · have ANS : Hid (Ending.returned (.tuple #[.string ⟨#[]⟩, .int .i64 1]) = .returned (.tuple #[.string (sealS K L cs), .int .i64 (sealE K L cs)])) := by
      show _ = _
      rw [sealS, sealE, if_pos (.inl hk), if_pos hk]
    have hk2 : K < 1 ∨ (1 ≤ K ∧ 5 < K) ∨ (1 ≤ K ∧ K ≤ 5 ∧ L < 0) ∨ (1 ≤ K ∧ K ≤ 5 ∧ 0 ≤ L ∧ 2147483647 < L) := by omega
    clear hk h
    rcases hk2 with k1 | ⟨k1, k2⟩ | ⟨k1, k2, k3⟩ | ⟨k1, k2, k3, k4⟩
    all_goals
      go_enter Try.func27, Try.ntmps27
      go_wp2_with fail
      go_ret2
      exact ⟨ANS.out, hb0.out⟩
  · have k1 : 1 ≤ K := by omega
    have k2 : K ≤ 5 := by omega
    have k3 : 0 ≤ L := by omega
    have k4 : L ≤ 2147483647 := by omega
    have U := Lib.hid (fun w1 (hw : Below w.heap.size w w1) => page_Used A n c cs w1 (h.keep hw) hn hu)
    have HH := Lib.hid h
    clear h hk
    by_cases hr : 1012 < usedN cs
    · have ANS : Hid (Ending.returned (.tuple #[.string ⟨#[]⟩, .int .i64 5]) = .returned (.tuple #[.string (sealS K L cs), .int .i64 (sealE K L cs)])) := by
        have q1 : ¬ (K < 1 ∨ 5 < K ∨ L < 0 ∨ 2147483647 < L) := by omega
        show _ = _
        rw [sealS, sealE, if_pos (.inr hr), if_neg q1, if_pos hr]
      go_enter Try.func27, Try.ntmps27
      go_wp2_with (go_at_call 28; refine (U.out _ hb0.out).mono ?_; rintro e w1 ⟨rfl, rfl⟩)
      go_ret2
      exact ⟨ANS.out, hb0.out⟩
    · go_enter Try.func27, Try.ntmps27
      go_upto_region 7 with (go_at_call 28; refine (U.out _ hb0.out).mono ?_; rintro e w1 ⟨rfl, rfl⟩)
      have HX := (Has.new w 40 #[.int .i64 K, .int .i64 L, .slice A n c]).alloc (.cells (Try.zeroCells77.setIfInBounds 4 (.int .u8 K)) 77)
      have HG := Has.new (w.alloc (.cells #[.int .i64 K, .int .i64 L, .slice A n c] 40)) 77 (Try.zeroCells77.setIfInBounds 4 (.int .u8 K))
      have hbel := hb0.out.alloc (by simp) (.cells (Try.zeroCells77.setIfInBounds 4 (.int .u8 K)) 77)
      simp only [World.size_alloc] at HG
      generalize ((w.alloc (.cells #[.int .i64 K, .int .i64 L, .slice A n c] 40)).alloc (.cells (Try.zeroCells77.setIfInBounds 4 (.int .u8 K)) 77)) = W at *
      rw [zeros77, u8s_set0 K (by omega) (by omega)] at HG
      refine wp_region_inv 5 (Cls (W)) (eqP [.slice (some ⟨w.heap.size + 1, 6, none⟩) 1018 1018, .pointer (some ⟨w.heap.size, 2, none⟩), .slice A n c, .int .i64 n] (BV 2 (beK n 2))) (by kernel_rfl) (by kernel_rfl) (by kernel_rfl) (fun _ _ hC hb => Cls.step hC hb) ?hst (Cls.start _) ?hops ?hend
      case hst => exact eqP_stable (BV_stable _ _) _
      case hops =>
        obtain ⟨a0, a1, a2⟩ := HX.cells3
        have z1 := HX.lt
        intro us wx hus hC
        obtain ⟨u0, u1, u2, u3, u4, rfl⟩ : ∃ u0 u1 u2 u3 u4, us = [u0, u1, u2, u3, u4] := by
          match us, hus with
          | [u0, u1, u2, u3, u4], _ => exact ⟨u0, u1, u2, u3, u4, rfl⟩
        clear hus
        simp only [fillA, Act.put, List.take_succ_cons, List.take_zero, List.setIfInBounds_toArray, List.set_cons_zero, List.set_cons_succ]
        refine ⟨fun h => ?_, fun h => ?_, fun h => ?_, fun h => ?_, fun h => ?_, trivial⟩
        · (clear h; refine good_plain rfl ?_; go_simp; exact ⟨Below.refl _ _, rfl⟩)
        · (clear h; refine good_plain rfl ?_; go_simp; exact ⟨Below.refl _ _, rfl⟩)
        · obtain rfl := h 1 rfl
          (clear h; refine good_plain rfl ?_; obtain ⟨hc, hf⟩ := hC.facts; go_simp; exact ⟨Below.refl _ _, rfl⟩)
        · obtain rfl := h 2 rfl
          (clear h; refine good_plain rfl ?_; go_simp; exact ⟨Below.refl _ _, rfl⟩)
        · obtain rfl := h 3 rfl
          clear h; refine good_plain rfl ?_; go_simp
          exact (page_twoV n (by omega) _)
      case hend =>
        intro us wx hus hC
        obtain ⟨u0, u1, u2, u3, u4, rfl⟩ : ∃ u0 u1 u2 u3 u4, us = [u0, u1, u2, u3, u4] := by
          match us, hus with
          | [u0, u1, u2, u3, u4], _ => exact ⟨u0, u1, u2, u3, u4, rfl⟩
        clear hus
        intro hall
        obtain ⟨h0, h1, h2, h3, h4, _⟩ := hall
        obtain rfl := h0
        obtain ⟨A4, c4, rfl, hB⟩ := h4
        have hHG := HG.belowS hC.bel
        have hHX := HX.belowS hC.bel
        have hbw := bel_step hbel hC.bel hbel.size
        clear h1 h2 h3 HG HX hbel
        simp only [fillA, Act.put, List.take_succ_cons, List.take_zero, List.setIfInBounds_toArray, List.set_cons_zero, List.set_cons_succ, List.drop_succ_cons, List.drop_zero]
        refine wpList_copy_BS rfl (.tmp 34) (.tmp 38) 55 55 rfl 5 Try.underlying55 sizeByte (some ⟨w.heap.size + 1, 6, none⟩) 1018 1018 A4 2 c4 rfl rfl _ hB (w.heap.size + 1) 6 _ _ hHG (fun _ => rfl) (by omega) (by simp) ?_
        intro w7 HG7 hb7
        have HX7 := hHX.below hb7 (by omega)
        have hbel7 : Below w.heap.size w w7 := hbw.trans (hb7.mono (by omega))
        clear hHG hHX hb7 hbw hC hB
        go_wp2_with fail
        have fourL := Lib.hid (fun w1 => page_fourV L.toNat (by omega) w1)
        have eL : ((L.toNat : Nat) : Int) = L := by omega
        rw [eL] at fourL
        refine wp_region_inv 4 (Cls (w7)) (eqP [.slice (some ⟨w.heap.size + 1, 8, none⟩) 1016 1016, .pointer (some ⟨w.heap.size, 1, none⟩), .int .i64 L] (BV 4 (beK L.toNat 4))) (by kernel_rfl) (by kernel_rfl) (by kernel_rfl) (fun _ _ hC hb => Cls.step hC hb) ?hst (Cls.start _) ?hops ?hend
        case hst => exact eqP_stable (BV_stable _ _) _
        case hops =>
          obtain ⟨a0, a1, a2⟩ := HX7.cells3
          have z1 := HX7.lt
          intro us wx hus hC
          obtain ⟨u0, u1, u2, u3, rfl⟩ : ∃ u0 u1 u2 u3, us = [u0, u1, u2, u3] := by
            match us, hus with
            | [u0, u1, u2, u3], _ => exact ⟨u0, u1, u2, u3, rfl⟩
          clear hus
          simp only [fillA, Act.put, List.take_succ_cons, List.take_zero, List.setIfInBounds_toArray, List.set_cons_zero, List.set_cons_succ]
          refine ⟨fun h => ?_, fun h => ?_, fun h => ?_, fun h => ?_, trivial⟩
          · (clear h; refine good_plain rfl ?_; go_simp; exact ⟨Below.refl _ _, rfl⟩)
          · (clear h; refine good_plain rfl ?_; go_simp; exact ⟨Below.refl _ _, rfl⟩)
          · obtain rfl := h 1 rfl
            (clear h; refine good_plain rfl ?_; obtain ⟨hc, hf⟩ := hC.facts; go_simp; exact ⟨Below.refl _ _, rfl⟩)
          · obtain rfl := h 2 rfl
            clear h; refine good_plain rfl ?_; go_simp
            exact fourL.out _
        case hend =>
          intro us wx hus hC
          obtain ⟨u0, u1, u2, u3, rfl⟩ : ∃ u0 u1 u2 u3, us = [u0, u1, u2, u3] := by
            match us, hus with
            | [u0, u1, u2, u3], _ => exact ⟨u0, u1, u2, u3, rfl⟩
          clear hus
          intro hall
          obtain ⟨h0, h1, h2, h3, _⟩ := hall
          obtain rfl := h0
          obtain ⟨A5, c5, rfl, hB⟩ := h3
          have hHG := HG7.belowS hC.bel
          have hHX := HX7.belowS hC.bel
          have hbw := bel_step hbel7 hC.bel hbel7.size
          clear h1 h2 HG7 HX7 hbel7 fourL eL
          simp only [fillA, Act.put, List.take_succ_cons, List.take_zero, List.setIfInBounds_toArray, List.set_cons_zero, List.set_cons_succ, List.drop_succ_cons, List.drop_zero]
          refine wpList_copy_BS rfl (.tmp 40) (.tmp 43) 55 55 rfl 5 Try.underlying55 sizeByte (some ⟨w.heap.size + 1, 8, none⟩) 1016 1016 A5 4 c5 rfl rfl _ hB (w.heap.size + 1) 8 _ _ hHG (fun _ => rfl) (by omega) (by rw [splice_len _ _ _ (by simp [beK_len])]; simp) ?_
          intro w8 HG8 hb8
          have HX8 := hHX.below hb8 (by omega)
          have hbel8 : Below w.heap.size w w8 := hbw.trans (hb8.mono (by omega))
          clear hHG hHX hb8 hbw hC hB
          rw [← HH.out.1, pageL_start K.toNat L.toNat cs] at HG8
          obtain ⟨a0, a1, a2⟩ := HX8.cells3
          have z1 := HX8.lt
          have HP0 := Lib.hid HG8; have HX0 := Lib.hid HX8; have HB0 := Lib.hid hbel8
          clear HG8 HX8 hbel8
          go_wp2_with fail
          clear a0 a1 a2 z1
          have hr2 : usedN cs ≤ 1012 := by omega
          have HR := Lib.hid hr2
          go_loopw [5, 48] (fun v5 v48 wr => ∃ i E : Nat, i ≤ n ∧ E = 1024 - bodyN (cs.take i) ∧ v48 = .int .i64 i ∧ v5 = .int .i64 E ∧ Has wr (w.heap.size + 1) 77 (u8s (pageL K.toNat L.toNat cs i)).toArray ∧ Has wr w.heap.size 40 #[.int .i64 K, .int .i64 L, .slice A n c] ∧ Below w.heap.size w wr) (fun _ v48 _ => n - (intOf v48).toNat)
          case atStart => exact ⟨0, 1024, Nat.zero_le _, rfl, rfl, rfl, HP0.out, HX0.out, HB0.out⟩
          case round =>
            clear HP0 HX0 HB0
            obtain ⟨i, E, hi, hE, rfl, rfl, HG, HX, hbel⟩ := hrel
            have HG0 := Lib.hid HG; have HX0 := Lib.hid HX; have HB0 := Lib.hid hbel
            clear HG HX hbel
            by_cases h1 : i < n
            · have hl : i < cs.length := by rw [HH.out.1]; exact h1
              obtain ⟨b, off, rfl, hbl, hc⟩ := HH.out.2 (by omega)
              have c0 := hc i cs[i] (by simp [hl])
              obtain ⟨wc, wf⟩ := bcell HB0.out
              have c1 : wr.cell? ⟨b, off + i, none⟩ = some (.string cs[i]) := (wc _ _ hbl).trans c0
              have z1 : b < wr.heap.size := by have := HB0.out.size; omega
              have b1 := body_le HR.out (i + 1) (by omega)
              have b2 := bodyN_take cs hl
              obtain ⟨E', hE'⟩ : ∃ E' : Nat, E' = 1024 - bodyN (cs.take (i + 1)) := ⟨_, rfl⟩
              obtain ⟨o1, ho1⟩ : ∃ o1 : Nat, o1 = 12 + 2 * i := ⟨_, rfl⟩
              have e1 : (12 : Int) + 2 * (i : Int) = (o1 : Int) := by omega
              have e2 : (E : Int) - (2 + (cs[i].size : Int)) = (E' : Int) := by omega
              have m1 : o1 ≤ 1022 := by omega
              have m2 : E' ≤ 1022 := by omega
              have m3 : cs[i].size ≤ 1012 := by omega
              have m4 : E' + 2 + cs[i].size ≤ 1024 := by omega
              have m5 : E ≤ 1024 := by omega
              have STEP := Lib.hid (pageL_step (k := K.toNat) (l := L.toNat) HR.out hl)
              have HE' := Lib.hid hE'; have HO1 := Lib.hid ho1
              have w1 : IntKind.i64.wrap (2 * (i : Int)) = 2 * (i : Int) := IntWalk.i64_in _ ⟨by omega, by omega⟩
              have w2 : IntKind.i64.wrap (o1 : Int) = (o1 : Int) := IntWalk.i64_in _ ⟨by omega, by omega⟩
              obtain ⟨E2, hE2⟩ : ∃ E2 : Nat, E2 = E' + 2 := ⟨_, rfl⟩
              have e3 : (E' : Int) + 2 = (E2 : Int) := by omega
              have HE2 := Lib.hid hE2
              have s1 := slice77 (w.heap.size + 1) o1 (by omega)
              have s2 := slice77 (w.heap.size + 1) E' (by omega)
              obtain ⟨dp, k3, s3, hdp, hk3⟩ := slice77_any (w.heap.size + 1) E2 cs[i].size (by omega)
              clear wc wf c0 hc b1 b2 hE hE' ho1 hE2
              go_wp2_with fail
              have twoE := Lib.hid (fun w1 => page_twoV E' (by omega) w1)
              have twoC := Lib.hid (fun w1 => page_twoV cs[i].size (by omega) w1)
              refine wp_region_inv 6 (Cls (wr)) (eqP [.int .i64 i, .int .i64 (2 * (i : Int)), .int .i64 o1, .slice (some ⟨w.heap.size + 1, o1, none⟩) (1024 - o1) (1024 - o1), .int .i64 E'] (BV 2 (beK E' 2))) (by kernel_rfl) (by kernel_rfl) (by kernel_rfl) (fun _ _ hC hb => Cls.step hC hb) ?hst (Cls.start _) ?hops ?hend
              case hst => exact eqP_stable (BV_stable _ _) _
              case hops =>
                intro us wx hus hC
                obtain ⟨u0, u1, u2, u3, u4, u5, rfl⟩ : ∃ u0 u1 u2 u3 u4 u5, us = [u0, u1, u2, u3, u4, u5] := by
                  match us, hus with
                  | [u0, u1, u2, u3, u4, u5], _ => exact ⟨u0, u1, u2, u3, u4, u5, rfl⟩
                clear hus
                simp only [fillA, Act.put, List.take_succ_cons, List.take_zero, List.setIfInBounds_toArray, List.set_cons_zero, List.set_cons_succ]
                refine ⟨fun h => ?_, fun h => ?_, fun h => ?_, fun h => ?_, fun h => ?_, fun h => ?_, trivial⟩
                · (clear h; refine good_plain rfl ?_; go_simp; exact ⟨Below.refl _ _, rfl⟩)
                · obtain rfl := h 0 rfl
                  (clear h; refine good_plain rfl ?_; go_simp; exact ⟨Below.refl _ _, rfl⟩)
                · obtain rfl := h 1 rfl
                  (clear h; refine good_plain rfl ?_; go_simp; exact ⟨Below.refl _ _, rfl⟩)
                · obtain rfl := h 2 rfl
                  (clear h; refine good_plain rfl ?_; go_simp; exact ⟨Below.refl _ _, rfl⟩)
                · (clear h; refine good_plain rfl ?_; go_simp; exact ⟨Below.refl _ _, rfl⟩)
                · obtain rfl := h 4 rfl
                  clear h; refine good_plain rfl ?_; go_simp
                  exact twoE.out _
              case hend =>
                intro us wx hus hC
                obtain ⟨u0, u1, u2, u3, u4, u5, rfl⟩ : ∃ u0 u1 u2 u3 u4 u5, us = [u0, u1, u2, u3, u4, u5] := by
                  match us, hus with
                  | [u0, u1, u2, u3, u4, u5], _ => exact ⟨u0, u1, u2, u3, u4, u5, rfl⟩
                clear hus
                intro hall
                obtain ⟨h0, h1, h2, h3, h4, h5, _⟩ := hall
                obtain rfl := h3
                obtain ⟨A6, c6, rfl, hB⟩ := h5
                have hHG := HG0.out.belowS hC.bel
                have hHX := HX0.out.belowS hC.bel
                have hbw := bel_step HB0.out hC.bel HB0.out.size
                clear h0 h1 h2 h4 HG0 HX0 HB0 twoE
                simp only [fillA, Act.put, List.take_succ_cons, List.take_zero, List.setIfInBounds_toArray, List.set_cons_zero, List.set_cons_succ, List.drop_succ_cons, List.drop_zero]
                refine wpList_copy_BS rfl (.tmp 61) (.tmp 63) 55 55 rfl 5 Try.underlying55 sizeByte (some ⟨w.heap.size + 1, o1, none⟩) (1024 - o1) (1024 - o1) A6 2 c6 rfl rfl _ hB (w.heap.size + 1) o1 _ _ hHG (fun _ => rfl) (by omega) (by rw [pageL_len HR.out (by omega)]; omega) ?_
                intro w9 HG9 hb9
                have HX9 := Lib.hid (hHX.below hb9 (by omega))
                have HB9 := Lib.hid (show Below w.heap.size w w9 from hbw.trans (hb9.mono (by omega)))
                have HP9 := Lib.hid HG9
                clear hHG hHX hb9 hbw hC hB HG9
                go_wp2_with fail
                refine wp_region_inv 5 (Cls (w9)) (eqP [.int .i64 E', .slice (some ⟨w.heap.size + 1, E', none⟩) (1024 - E') (1024 - E'), .string cs[i], .int .i64 (cs[i].size : Nat)] (BV 2 (beK cs[i].size 2))) (by kernel_rfl) (by kernel_rfl) (by kernel_rfl) (fun _ _ hC hb => Cls.step hC hb) ?hst (Cls.start _) ?hops ?hend
                case hst => exact eqP_stable (BV_stable _ _) _
                case hops =>
                  intro us wx hus hC
                  obtain ⟨u0, u1, u2, u3, u4, rfl⟩ : ∃ u0 u1 u2 u3 u4, us = [u0, u1, u2, u3, u4] := by
                    match us, hus with
                    | [u0, u1, u2, u3, u4], _ => exact ⟨u0, u1, u2, u3, u4, rfl⟩
                  clear hus
                  simp only [fillA, Act.put, List.take_succ_cons, List.take_zero, List.setIfInBounds_toArray, List.set_cons_zero, List.set_cons_succ]
                  refine ⟨fun h => ?_, fun h => ?_, fun h => ?_, fun h => ?_, fun h => ?_, trivial⟩
                  · (clear h; refine good_plain rfl ?_; go_simp; exact ⟨Below.refl _ _, rfl⟩)
                  · obtain rfl := h 0 rfl
                    (clear h; refine good_plain rfl ?_; go_simp; exact ⟨Below.refl _ _, rfl⟩)
                  · (clear h; refine good_plain rfl ?_; go_simp; exact ⟨Below.refl _ _, rfl⟩)
                  · obtain rfl := h 2 rfl
                    (clear h; refine good_plain rfl ?_; go_simp; exact ⟨Below.refl _ _, rfl⟩)
                  · obtain rfl := h 3 rfl
                    clear h; refine good_plain rfl ?_; go_simp
                    exact twoC.out _
                case hend =>
                  intro us wx hus hC
                  obtain ⟨u0, u1, u2, u3, u4, rfl⟩ : ∃ u0 u1 u2 u3 u4, us = [u0, u1, u2, u3, u4] := by
                    match us, hus with
                    | [u0, u1, u2, u3, u4], _ => exact ⟨u0, u1, u2, u3, u4, rfl⟩
                  clear hus
                  intro hall
                  obtain ⟨h0, h1, h2, h3, h4, _⟩ := hall
                  obtain rfl := h1
                  obtain ⟨A7, c7, rfl, hB⟩ := h4
                  have hHG := HP9.out.belowS hC.bel
                  have hHX := HX9.out.belowS hC.bel
                  have hbw := bel_step HB9.out hC.bel HB9.out.size
                  clear h0 h2 h3 HP9 HX9 HB9 twoC
                  simp only [fillA, Act.put, List.take_succ_cons, List.take_zero, List.setIfInBounds_toArray, List.set_cons_zero, List.set_cons_succ, List.drop_succ_cons, List.drop_zero]
                  refine wpList_copy_BS rfl (.tmp 66) (.tmp 69) 55 55 rfl 5 Try.underlying55 sizeByte (some ⟨w.heap.size + 1, E', none⟩) (1024 - E') (1024 - E') A7 2 c7 rfl rfl _ hB (w.heap.size + 1) E' _ _ hHG (fun _ => rfl) (by omega) (by rw [splice_len _ _ _ (by rw [beK_len, pageL_len HR.out (by omega)]; omega), pageL_len HR.out (by omega)]; omega) ?_
                  intro w10 HG10 hb10
                  have HX10 := Lib.hid (hHX.below hb10 (by omega))
                  have HB10 := Lib.hid (show Below w.heap.size w w10 from hbw.trans (hb10.mono (by omega)))
                  have HP10 := Lib.hid HG10
                  clear hHG hHX hb10 hbw hC hB HG10
                  obtain ⟨w11, hcp, HG11, hb11⟩ := run_copy_str (P := Try.prog) (w := w10) 55 9 3 5 Try.underlying55 sizeByte dp k3 k3 cs[i] (w.heap.size + 1) E2 _ _ HP10.out hdp hk3 (by rw [splice_len _ _ _ (by rw [beK_len, splice_len _ _ _ (by rw [beK_len, pageL_len HR.out (by omega)]; omega), pageL_len HR.out (by omega)]; omega), splice_len _ _ _ (by rw [beK_len, pageL_len HR.out (by omega)]; omega), pageL_len HR.out (by omega)]; omega)
                  have HX11 := Lib.hid (HX10.out.below hb11 (by omega))
                  have HB11 := Lib.hid (show Below w.heap.size w w11 from HB10.out.trans (hb11.mono (by omega)))
                  have HP11 := Lib.hid HG11
                  clear HX10 HB10 HP10 hb11 HG11
                  go_wp2_with fail
                  have ST := STEP.out
                  rw [← HO1.out, ← HE'.out, ← HE2.out] at ST
                  rw [ST] at HP11
                  go_roundw
                  case rel => exact ⟨i + 1, E', by omega, HE'.out, by simp, rfl, HP11.out, HX11.out, HB11.out⟩
                  case measure => simp [intOf]; omega
            · obtain rfl : i = n := by omega
              obtain ⟨x, hx⟩ : ∃ x, crcN (midL K.toNat L.toNat cs cs.length) = x := ⟨_, rfl⟩
              have x1 := crcN_lt (midL K.toNat L.toNat cs cs.length)
              rw [hx] at x1
              have x2 : (0 : Int) ≤ (x : Int) := by omega
              have x3 : (x : Int) ≤ 4294967295 := by omega
              have x4 : IntKind.i64.wrap (x : Int) = (x : Int) := IntWalk.i64_in _ ⟨by omega, by omega⟩
              have HX := Lib.hid hx
              have HM : Hid (pageL K.toNat L.toNat cs i = [0, 0, 0, 0] ++ midL K.toNat L.toNat cs cs.length) := by rw [← HH.out.1]; exact rfl
              have LM := Lib.hid (midL_len (k := K.toNat) (l := L.toNat) HR.out (Nat.le_refl cs.length))
              have four := Lib.hid (fun w1 => page_fourV x (by omega) w1)
              have sum := Lib.hid (fun w1 => page_Sum (bsOf (midL K.toNat L.toNat cs cs.length)) w1 (by rw [bsOf_size, midL_len HR.out (Nat.le_refl _)]; omega))
              have sum2 : Hid (∀ w1, Calls Try.prog 34 #[.string (bsOf (midL K.toNat L.toNat cs cs.length))] w1 fun e w' => e = .returned (.int .u32 x) ∧ w1 = w') := fun w1 => by
                have := sum.out w1
                rw [bsOf_data, hx] at this; exact this
              clear hx sum x1
              obtain ⟨mid, hmid⟩ : ∃ m, midL K.toNat L.toNat cs cs.length = m := ⟨_, rfl⟩
              rw [hmid] at HM LM sum2
              have HMID := Lib.hid hmid
              clear hmid
              go_wp2_with fail
              refine wp_region_inv 6 (Cls (wr)) (eqP [.slice (some ⟨w.heap.size + 1, 0, none⟩) 1024 1024, .slice (some ⟨w.heap.size + 1, 4, none⟩) 1020 1020, .string (bsOf mid), .int .u32 x, .int .i64 x] (BV 4 (beK x 4))) (by kernel_rfl) (by kernel_rfl) (by kernel_rfl) (fun _ _ hC hb => Cls.step hC hb) ?hst (Cls.start _) ?hops ?hend
              case hst => exact eqP_stable (BV_stable _ _) _
              case hops =>
                intro us wx hus hC
                obtain ⟨u0, u1, u2, u3, u4, u5, rfl⟩ : ∃ u0 u1 u2 u3 u4 u5, us = [u0, u1, u2, u3, u4, u5] := by
                  match us, hus with
                  | [u0, u1, u2, u3, u4, u5], _ => exact ⟨u0, u1, u2, u3, u4, u5, rfl⟩
                clear hus
                simp only [fillA, Act.put, List.take_succ_cons, List.take_zero, List.setIfInBounds_toArray, List.set_cons_zero, List.set_cons_succ]
                refine ⟨fun h => ?_, fun h => ?_, fun h => ?_, fun h => ?_, fun h => ?_, fun h => ?_, trivial⟩
                · (clear h; refine good_plain rfl ?_; go_simp; exact ⟨Below.refl _ _, rfl⟩)
                · (clear h; refine good_plain rfl ?_; go_simp; exact ⟨Below.refl _ _, rfl⟩)
                · obtain rfl := h 1 rfl
                  have hg := HG0.out.belowS hC.bel
                  have hcv := conv_BS (c := 1020) (BS.of_drop hg 4 (by rw [HM.out, List.length_append, LM.out]; first | done | rfl) (by rw [HM.out]; first | done | rfl))
                  clear h; refine good_plain rfl ?_; go_simp; exact ⟨Below.refl _ _, rfl⟩
                · obtain rfl := h 2 rfl
                  clear h; refine good_plain rfl ?_; go_simp
                  refine (sum2.out _).mono ?_
                  rintro e w1 ⟨rfl, rfl⟩
                  exact ⟨_, rfl, Below.refl _ _, rfl⟩
                · obtain rfl := h 3 rfl
                  (clear h; refine good_plain rfl ?_; go_simp; exact ⟨Below.refl _ _, rfl⟩)
                · obtain rfl := h 4 rfl
                  clear h; refine good_plain rfl ?_; go_simp
                  exact four.out _
              case hend =>
                intro us wx hus hC
                obtain ⟨u0, u1, u2, u3, u4, u5, rfl⟩ : ∃ u0 u1 u2 u3 u4 u5, us = [u0, u1, u2, u3, u4, u5] := by
                  match us, hus with
                  | [u0, u1, u2, u3, u4, u5], _ => exact ⟨u0, u1, u2, u3, u4, u5, rfl⟩
                clear hus
                intro hall
                obtain ⟨h0, h1, h2, h3, h4, h5, _⟩ := hall
                obtain rfl := h0
                obtain ⟨A6, c6, rfl, hB⟩ := h5
                have hHG := HG0.out.belowS hC.bel
                have hbw := bel_step HB0.out hC.bel HB0.out.size
                clear h1 h2 h3 h4 HG0 HX0 HB0 four sum2
                simp only [fillA, Act.put, List.take_succ_cons, List.take_zero, List.setIfInBounds_toArray, List.set_cons_zero, List.set_cons_succ, List.drop_succ_cons, List.drop_zero]
                refine wpList_copy_BS rfl (.tmp 77) (.tmp 82) 55 55 rfl 5 Try.underlying55 sizeByte (some ⟨w.heap.size + 1, 0, none⟩) 1024 1024 A6 4 c6 rfl rfl _ hB (w.heap.size + 1) 0 _ _ hHG (fun _ => rfl) (by omega) (by rw [HM.out, List.length_append, LM.out]; decide) ?_
                intro w9 HG9 hb9
                have HB9 := Lib.hid (show Below w.heap.size w w9 from hbw.trans (hb9.mono (by omega)))
                have hseal := pageL_sum (k := K.toNat) (l := L.toNat) (cs := cs)
                rw [HX.out, HH.out.1] at hseal
                rw [hseal] at HG9
                have hcv := conv_BS (c := 1024) (BS.of_drop (n := 1024) HG9 0 (by rw [sealL_len HR.out]) rfl)
                have ANS : Hid (Ending.returned (.tuple #[.string (bsOf (sealL K.toNat L.toNat cs)), .int .i64 0]) = .returned (.tuple #[.string (sealS K L cs), .int .i64 (sealE K L cs)])) := by
                  have q1 : ¬ (K < 1 ∨ 5 < K ∨ L < 0 ∨ 2147483647 < L) := by omega
                  show _ = _
                  rw [sealS, sealE, if_neg (by omega), if_neg q1, if_neg (by omega)]
                rw [List.drop_zero] at hcv
                clear hHG hb9 hbw hC hB HG9 hseal
                go_wp2_with fail
                go_ret2
                exact ⟨ANS.out, HB9.out⟩

end Go.Proofs.Ytlkkpgdgnnknpaa
