/-
  spoil; the walk of relstorelaw.ValueRows.
-/
import Derived.Test.YtlkkpgdgnnknpaaCode6
namespace Go.Proofs.Ytlkkpgdgnnknpaa
open Go.RowKit
open Go.BigFrame
set_option linter.unusedVariables false

theorem unpack_len (s : List UInt8) (vs : List Val) (h : unpackR s = some vs) : vs.length ≤ 64 := by
  rw [← unpack_same] at h
  cases s with
  | nil => simp [unpackP] at h
  | cons b r =>
    simp only [unpackP] at h
    split at h
    · obtain ⟨⟨us, r1⟩, h1, h2⟩ := Option.bind_eq_some_iff.1 h
      have := (many_ok h1).2.2
      simp only at h2
      split at h2
      · cases h2; omega
      · cases h2
    · cases h
theorem own_apart {w : World} {B : Nat} {e : TypeId} {size n : Nat} {v v' : Value} {xs : List Value} (h : w.ownsRow B e size v n xs) (h' : ∀ k, v'.ownBlock = some k → k < B) : v.ownBlock = none ∨ v.ownBlock ≠ v'.ownBlock := by
  cases hv : v.ownBlock with
  | none => exact .inl rfl
  | some k => exact .inr (fun e => by have := h' k e.symm; have := (h.lt k hv).1; omega)
/-- the caller writes over a list, and behind it: its own block alone turns -/
def SpoilPost (w : World) (v : Value) (e : Ending) (w' : World) : Prop := e = .returned (.tuple #[]) ∧ w.grownBy w' v.ownBlock
theorem has_own {w : World} {g : Nat} {t : TypeId} {cur : Array Value} {B n cap size : Nat} (h : Has w g t cur) (hB : B ≤ g) (hn : n ≤ cap) (hc : cap ≤ maxLen) (hs : cur.size = cap * size) : w.ownsRow B t size (.slice (some ⟨g, 0, none⟩) n cap) n (cur.toList.take (n * size)) :=
  ⟨by rw [List.length_take, Array.length_toList, hs]; exact Nat.min_eq_left (Nat.mul_le_mul_right _ hn), .inr ⟨g, cap, cur, rfl, hB, h, hn, hc, hs, rfl⟩⟩
theorem grownBy_refl (w : World) (r : Option Nat) : w.grownBy w r := ⟨rfl, rfl, rfl, Nat.le_refl _, fun _ _ _ => rfl⟩
theorem own_none {w : World} {e : TypeId} {v : Value} {n B : Nat} {xs : List Value} (h : w.ownsRow B e 3 v n xs) (hn : n = 0 ∨ ∃ g cap cur, v = .slice (some ⟨g, 0, none⟩) n cap ∧ Has w g e cur) : True := trivial

set_option maxRecDepth 100000 in
set_option maxHeartbeats 3200000 in
theorem law_spoil (B : Nat) (v : Value) (n : Nat) (vs : List Val) (w : World) (hown : w.ownsRow B 29 3 v n (cellsV vs)) (hB : B ≤ w.heap.size) (hn : n ≤ 100000000) :
    Calls Try.prog 54 #[v] w (SpoilPost w v) := by
  obtain ⟨i0, hi, hz0, hz1, hz2⟩ := info_parts infoValue
  have G1 := Lib.hid (show n + 2 ≤ maxLen by unfold maxLen; omega)
  have G2 := Lib.hid (show (n + 2) * 32 ≤ 140737488355328 by omega)
  rcases hown.2 with ⟨rfl, rfl⟩ | ⟨g, cap, cur, rfl, hbg, hg, hnc, hcm, hcs, _⟩
  · have HO := Lib.hid hown
    clear hown
    go_enter Try.func54, Try.ntmps54
    go_wp2_with fail
    go_loopw [2, 5] (fun _ v5 wr => v5 = .int .i64 0 ∧ wr = w) (fun _ _ _ => 0)
    case atStart => exact ⟨rfl, rfl⟩
    case round =>
      obtain ⟨rfl, rfl⟩ := hrel
      go_wp2_with ((at_builtin; refine wpList_append_src _ rfl (.tmp 13) (.tmp 16) 30 30 rfl (B) 29 i0 _ 3 32 Try.underlying30 hi hz0 hz1 hz2 zeroCellsValue (by decide) (_) (0) (_) rfl (HO.out.alloc _) (.slice (some ⟨_, 0, none⟩) 2 2) (2) ([.int .i64 9, .int .i64 0, .string ⟨#[]⟩, .int .i64 9, .int .i64 0, .string ⟨#[]⟩]) rfl (Src.ofSlice _ Try.underlying30 ⟨_, 0, none⟩ 2 2 ([.int .i64 9, .int .i64 0, .string ⟨#[]⟩, .int .i64 9, .int .i64 0, .string ⟨#[]⟩]) rfl (World.news_of_block (heap_alloc_new _ _)) (by simp [Value.oneCell'])) (G1.out) (G2.out) (Nat.le_trans hB (by simp)) ?_; intro v1 w2 hown1 hg1 _ hat1))
      go_end0
      exact ⟨rfl, grownBy_trans (World.grownBy_alloc _ _ _) hg1⟩
  · have hlt : g < w.heap.size := (Array.getElem?_eq_some_iff.1 hg).1
    have HH := Lib.hid (show Has w g 29 cur from hg)
    have HCS := Lib.hid hcs
    have HCM := Lib.hid hcm
    clear hown hg hcs hcm
    go_enter Try.func54, Try.ntmps54
    go_wp2_with fail
    go_loopw [2, 5] (fun _ v5 wr => ∃ (k : Nat) (C : Array Value), k ≤ n ∧ v5 = .int .i64 k ∧ Has wr g 29 C ∧ C.size = cap * 3 ∧ w.grownBy wr (some g)) (fun _ v5 _ => n - (intOf v5).toNat)
    case atStart => exact ⟨0, cur, Nat.zero_le _, rfl, HH.out, HCS.out, grownBy_refl _ _⟩
    case round =>
      clear HH HCS
      obtain ⟨k, C, hk, rfl, hH, hC, hG⟩ := hrel
      have HH := Lib.hid hH; have HC := Lib.hid hC; have HG := Lib.hid hG
      have hltr := hH.lt
      clear hH hC hG
      by_cases hkn : k < n
      · have kc : k < cap := by omega
        obtain ⟨a0, h0⟩ : ∃ a, wr.cell? ⟨g, k * 3, none⟩ = some a := ⟨_, by rw [HH.out.cell]; exact Array.getElem?_eq_getElem (by rw [HC.out]; omega)⟩
        obtain ⟨a1, h1⟩ : ∃ a, wr.cell? ⟨g, k * 3 + 1, none⟩ = some a := ⟨_, by rw [HH.out.cell]; exact Array.getElem?_eq_getElem (by rw [HC.out]; omega)⟩
        obtain ⟨a2, h2⟩ : ∃ a, wr.cell? ⟨g, k * 3 + 2, none⟩ = some a := ⟨_, by rw [HH.out.cell]; exact Array.getElem?_eq_getElem (by rw [HC.out]; omega)⟩
        have f0 := HH.out.frozen
        go_wp2_with fail
        go_roundw
        case rel => exact ⟨k + 1, _, by omega, by simp, ((HH.out.set _ _).set _ _).set _ _, by simp [HC.out], grownBy_trans HG.out (grownBy_trans (grownBy_setCell _ _) (grownBy_trans (grownBy_setCell _ _) (grownBy_setCell _ _)))⟩
        case measure => simp [intOf]; omega
      · obtain rfl : k = n := by omega
        have HO := Lib.hid (has_own (B := B) HH.out hbg hnc HCM.out HC.out)
        have HB := Lib.hid HG.out.size
        go_wp2_with ((at_builtin; refine wpList_append_src _ rfl (.tmp 13) (.tmp 16) 30 30 rfl (B) 29 i0 _ 3 32 Try.underlying30 hi hz0 hz1 hz2 zeroCellsValue (by decide) (_) (k) (_) rfl (HO.out.alloc _) (.slice (some ⟨_, 0, none⟩) 2 2) (2) ([.int .i64 9, .int .i64 0, .string ⟨#[]⟩, .int .i64 9, .int .i64 0, .string ⟨#[]⟩]) rfl (Src.ofSlice _ Try.underlying30 ⟨_, 0, none⟩ 2 2 ([.int .i64 9, .int .i64 0, .string ⟨#[]⟩, .int .i64 9, .int .i64 0, .string ⟨#[]⟩]) rfl (World.news_of_block (heap_alloc_new _ _)) (by simp [Value.oneCell'])) (G1.out) (G2.out) (Nat.le_trans hB (Nat.le_trans HB.out (by simp))) ?_; intro v1 w2 hown1 hg1 _ hat1))
        go_end0
        exact ⟨rfl, grownBy_trans HG.out (grownBy_trans (World.grownBy_alloc _ _ _) hg1)⟩

set_option maxHeartbeats 400000 in
theorem law_num7 (x : Int) (w : World) : Calls Try.prog 12 #[.int .i64 x] w fun e w' => e = .returned (.int .i64 x) ∧ w = w' := by
  go_enter Try.func12, Try.ntmps12
  go_wp2
  go_ret
  exact ⟨rfl, rfl⟩

set_option maxRecDepth 100000 in
set_option maxHeartbeats 3200000 in
theorem law_ValueRows (A : Option Addr) (n c : Nat) (vs : List Val) (s : ByteArray) (w : World) (h : VS w A n vs) (hn : (n + 2) * 32 ≤ 140737488355328) (hok : ∀ v ∈ vs, v.s.size ≤ 9223372036854775807) (hs : s.size ≤ 281474976710656) :
    Calls Try.prog 10 #[.slice A n c, .string s] w fun e w' => e = .returned (.bool true) ∧ Below w.heap.size w w' := by
  have T1 := Lib.hid (fun w1 (h1 : VS w1 A n vs) => law_lent A n c vs w1 h1 hn)
  have T2 := Lib.hid (fun g cap w1 (h1 : VS w1 (some ⟨g, 0, none⟩) n vs) => value_Pack (some ⟨g, 0, none⟩) n cap vs w1 h1 (by omega))
  have T3 := Lib.hid (fun w1 (h1 : VS w1 A n vs) => ref_Pack A n c vs w1 h1 (by omega) hok)
  have T4 := Lib.hid (fun w1 => value_Unpack s.data.toList w1 (by simp; omega))
  have T5 := Lib.hid (fun w1 => ref_Unpack s.data.toList w1 (by simpa using hs))
  have T6 := Lib.hid (fun g cap w1 (hx : VS w1 (some ⟨g, 0, none⟩) (n + 2) (vs ++ marks)) (hc : n + 2 ≤ cap) (h1 : VS w1 A n vs) => law_back A g cap n c vs w1 hx hc h1 (by omega))
  rw [bsOf_of] at T4 T5
  rw [unpack_same] at T4
  have hnn : n ≤ 9223372036854775807 := by omega
  have U64 := Lib.hid (unpack_len s.data.toList)
  obtain ⟨E, hE⟩ : ∃ E, packE vs = E := ⟨_, rfl⟩
  obtain ⟨T, hT⟩ : ∃ T, packS vs = T := ⟨_, rfl⟩
  obtain ⟨o, ho⟩ : ∃ o, unpackR s.data.toList = o := ⟨_, rfl⟩
  rw [hE, hT] at T2 T3
  rw [ho] at T4 T5 U64
  have H := Lib.hid h
  have HM := Lib.hid (marks_at h.1).2.2
  clear h hn hok hs hE hT ho
  have f1 : (T.toList == T.toList) = true := by simp
  go_enter Try.func10, Try.ntmps10
  go_wp2_with fail
  refine (T1.out _ H.out).mono ?_
  rintro e w1 ⟨g, cap, rfl, hcap, hx, hb1⟩
  have HX := Lib.hid hx; have HB1 := Lib.hid hb1; have H1 := Lib.hid (H.out.keep hb1)
  have HT := Lib.hid (show VS w1 (some ⟨g, 0, none⟩) n vs by have := hx.take (k := n) (by omega); rw [HM.out] at this; exact this)
  have i1 : (n : Int) ≤ (cap : Int) := by omega
  clear hx hb1 H
  go_wp2_with fail
  refine (T2.out _ _ _ HT.out).mono ?_
  rintro e w2 ⟨rfl, hb2⟩
  have HX2 := Lib.hid (HX.out.keep hb2); have HB2 := Lib.hid (bel_step HB1.out hb2 HB1.out.size); have H2 := Lib.hid (H1.out.keep hb2)
  clear hb2 HX HB1 H1 HT
  go_wp2_with fail
  refine (T3.out _ H2.out).mono ?_
  rintro e w3 ⟨rfl, hb3⟩
  have HX3 := Lib.hid (HX2.out.keep hb3); have HB3 := Lib.hid (bel_step HB2.out hb3 HB2.out.size); have H3 := Lib.hid (H2.out.keep hb3)
  clear hb3 HX2 HB2 H2
  cases o with
  | none =>
    go_wp2_with fail
    refine (T4.out _).mono ?_
    rintro e w4 ⟨rfl, hb4⟩
    have HX4 := Lib.hid (HX3.out.keep hb4); have HB4 := Lib.hid (bel_step HB3.out hb4 HB3.out.size); have H4 := Lib.hid (H3.out.keep hb4)
    clear hb4 HX3 HB3 H3
    go_wp2_with fail
    refine (T5.out _).mono ?_
    rintro e w5 ⟨rfl, hb5⟩
    have HX5 := Lib.hid (HX4.out.keep hb5); have HB5 := Lib.hid (bel_step HB4.out hb5 HB4.out.size); have H5 := Lib.hid (H4.out.keep hb5)
    clear hb5 HX4 HB4 H4
    have TV : Hid (∀ w1, Calls Try.prog 53 #[.slice none 0 0, .slice none 0 0] w1 fun e w' => e = .returned (.bool true) ∧ Below w1.heap.size w1 w') := fun w1 => law_sameValues none none 0 0 0 [] w1 ⟨rfl, fun h => absurd h (by omega)⟩ ⟨rfl, fun h => absurd h (by omega)⟩ (by omega)
    have TS : Hid (∀ w1, Calls Try.prog 54 #[.slice none 0 0] w1 (SpoilPost w1 (.slice none 0 0))) := fun w1 => law_spoil w1.heap.size (.slice none 0 0) 0 [] w1 (World.ownsRow_nil _ _ _ _) (Nat.le_refl _) (by omega)
    go_wp2_with (first | (go_at_call 12; refine (law_num7 _ _).mono ?_; rintro e w1 ⟨rfl, rfl⟩) | (go_at_call 20; (with_reducible refine (T6.out _ _ _ HX5.out hcap H5.out).mono ?_); rintro e w6 ⟨rfl, hb6⟩; have HB6 := Lib.hid (bel_step HB5.out hb6 HB5.out.size); clear hb6) | (go_at_call 53; (with_reducible refine (TV.out _).mono ?_); rintro e w7 ⟨rfl, hb7⟩; have HB7 := Lib.hid (bel_step HB6.out hb7 HB6.out.size); clear hb7) | (go_at_call 54; (with_reducible refine (TS.out _).mono ?_); rintro e w8 ⟨rfl, hg8⟩; have HB8 := Lib.hid (HB7.out.grown hg8 HB7.out.size (fun k hk => by cases hk)); clear hg8))
    refine (T4.out _).mono ?_
    rintro e w9 ⟨rfl, hb9⟩
    have HB9 := Lib.hid (bel_step HB8.out hb9 HB8.out.size)
    clear hb9
    go_wp2_with fail
    refine (TV.out _).mono ?_
    rintro e w10 ⟨rfl, hb10⟩
    have HB10 := Lib.hid (bel_step HB9.out hb10 HB9.out.size)
    clear hb10
    go_wp2_with fail
    go_ret
    exact ⟨rfl, HB10.out⟩
  | some us =>
    have hu := U64.out us rfl
    have TV := Lib.hid (fun (B C : Option Addr) cb cc w1 (h1 : VS w1 B us.length us) (h2 : VS w1 C us.length us) => law_sameValues B C us.length cb cc us w1 h1 h2 (by omega))
    have TS := Lib.hid (fun (B : Nat) (v : Value) w1 (ho : w1.ownsRow B 29 3 v us.length (cellsV us)) (hB : B ≤ w1.heap.size) => law_spoil B v us.length us w1 ho hB (by omega))
    go_wp2_with fail
    refine (T4.out _).mono ?_
    rintro e w4 ⟨m, rfl, hm4, hb4⟩
    have HX4 := Lib.hid (HX3.out.keep hb4); have HB4 := Lib.hid (bel_step HB3.out hb4 HB3.out.size); have H4 := Lib.hid (H3.out.keep hb4)
    have HM4 := Lib.hid hm4
    have L3 := Lib.hid hb4.size
    have L0 := Lib.hid HB3.out.size
    clear hb4 HX3 HB3 H3 hm4
    go_wp2_with fail
    refine (T5.out _).mono ?_
    rintro e w5 ⟨q, rfl, hq5, hb5⟩
    have HX5 := Lib.hid (HX4.out.keep hb5); have HB5 := Lib.hid (bel_step HB4.out hb5 HB4.out.size); have H5 := Lib.hid (H4.out.keep hb5)
    have HM5 := Lib.hid (own_keep HM4.out hb5)
    have HQ5 := Lib.hid hq5
    have MQ := Lib.hid (fun k hk => (HM4.out.lt k hk).2)
    have L5 := Lib.hid (Nat.le_trans L3.out hb5.size)
    clear hb5 HX4 HB4 H4 hq5 HM4
    have HM5v := Lib.hid (vs_own HM5.out)
    obtain ⟨Am, cm, rfl, _, hm5⟩ := vs_own HM5.out
    obtain ⟨Aq, cq, rfl, _, hq5⟩ := vs_own HQ5.out
    have VM5 := Lib.hid hm5; have VQ5 := Lib.hid hq5
    clear hm5 hq5 HM5v
    go_wp2_with (first | (go_at_call 12; refine (law_num7 _ _).mono ?_; rintro e w1 ⟨rfl, rfl⟩) | (go_at_call 20; (with_reducible refine (T6.out _ _ _ HX5.out hcap H5.out).mono ?_); rintro e w6 ⟨rfl, hb6⟩; have HB6 := Lib.hid (bel_step HB5.out hb6 HB5.out.size); have VM6 := Lib.hid (VM5.out.keep hb6); have VQ6 := Lib.hid (VQ5.out.keep hb6); have HM6 := Lib.hid (own_keep HM5.out hb6); have HQ6 := Lib.hid (own_keep HQ5.out hb6); have L6 := Lib.hid (Nat.le_trans L5.out hb6.size); clear hb6) | (go_at_call 53; (with_reducible refine (TV.out _ _ _ _ _ VM6.out VQ6.out).mono ?_); rintro e w7 ⟨rfl, hb7⟩; have HB7 := Lib.hid (bel_step HB6.out hb7 HB6.out.size); have HM7 := Lib.hid (own_keep HM6.out hb7); have HQ7 := Lib.hid (own_keep HQ6.out hb7); have L7 := Lib.hid (Nat.le_trans L6.out hb7.size); clear hb7))
    refine (TS.out _ _ _ HM7.out L7.out).mono ?_
    rintro e w8 ⟨rfl, hg8⟩
    have HB8 := Lib.hid (HB7.out.grown hg8 HB7.out.size (fun k hk => Nat.le_trans L0.out (HM7.out.lt k hk).1))
    have HQ8 := Lib.hid (HQ7.out.kept hg8 (own_apart HQ7.out MQ.out))
    clear hg8
    go_wp2_with fail
    refine (T4.out _).mono ?_
    rintro e w9 ⟨m2, rfl, hm9, hb9⟩
    have HB9 := Lib.hid (bel_step HB8.out hb9 HB8.out.size)
    have HQ9 := Lib.hid (own_keep HQ8.out hb9)
    obtain ⟨A2, c2, rfl, _, hv2⟩ := vs_own hm9
    obtain ⟨A3, c3, h3, _, hq9⟩ := vs_own HQ9.out
    obtain ⟨rfl, rfl⟩ : Aq = A3 ∧ cq = c3 := by injection h3 with e1 e2 e3; exact ⟨e1, e3⟩
    have V2 := Lib.hid hv2; have VQ9 := Lib.hid hq9
    clear hb9 hm9 hv2 hq9 h3
    go_wp2_with fail
    refine (TV.out _ _ _ _ _ V2.out VQ9.out).mono ?_
    rintro e w10 ⟨rfl, hb10⟩
    have HB10 := Lib.hid (bel_step HB9.out hb10 HB9.out.size)
    clear hb10
    go_wp2_with fail
    go_ret
    exact ⟨rfl, HB10.out⟩

end Go.Proofs.Ytlkkpgdgnnknpaa
