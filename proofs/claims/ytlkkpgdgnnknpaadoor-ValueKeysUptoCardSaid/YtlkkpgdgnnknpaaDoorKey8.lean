/-
  The law ValueKeys.
-/
import Derived.Test.YtlkkpgdgnnknpaaDoorKey5
import Derived.Test.YtlkkpgdgnnknpaaDoorKey7
import Derived.Test.YtlkkpgdgnnknpaaDoorSpoil
namespace Go.Proofs.YtlkkpgdgnnknpaaDoor
open Go.RowKit
open Go.BigFrame
set_option linter.unusedVariables false
set_option linter.unusedSimpArgs false

theorem unkeyF_len : ∀ (m : Nat) (s : List UInt8) (vs : List Val), unkeyF m s = some vs → vs.length ≤ s.length
  | 0, s, vs, h => by
    rw [unkeyF] at h
    split at h
    · cases h; exact Nat.zero_le _
    · cases h
  | m + 1, s, vs, h => by
    rw [unkeyF] at h
    split at h
    · cases h; exact Nat.zero_le _
    · obtain ⟨⟨v, r⟩, h1, h2⟩ := Option.bind_eq_some_iff.1 h
      obtain ⟨us, h3, h4⟩ := Option.map_eq_some_iff.1 h2
      have := unkeyF_len m r us h3
      have h5 := (oneK_ok h1).2
      have h6 := (keyC_len v).1
      rw [← h4, h5, List.length_append, List.length_cons]
      omega
theorem unkey_len {s : List UInt8} {vs : List Val} (h : unkey s = some vs) : vs.length ≤ s.length := unkeyF_len _ _ _ h

set_option maxRecDepth 100000 in
set_option maxHeartbeats 6400000 in
theorem law_ValueKeys (A : Option Addr) (n c : Nat) (vs : List Val) (s : ByteArray) (w : World) (h : VS w A n vs) (hn : n ≤ 20000000) (hb : (keyL vs).length ≤ 50000000) (hs : s.size ≤ 20000000) (hmax : HasMax w) :
    Calls Tryd.prog 3 #[.slice A n c, .string s] w fun e w' => e = .returned (.bool true) ∧ Below w.heap.size w w' := by
  have T1 := Lib.hid (fun w1 (h1 : VS w1 A n vs) => law_lent A n c vs w1 h1 (by omega))
  have T2 := Lib.hid (fun g cap w1 (h1 : VS w1 (some ⟨g, 0, none⟩) n vs) (h2 : HasMax w1) => value_Key (some ⟨g, 0, none⟩) n cap vs w1 h1 (by omega) h2 hb)
  have T3 := Lib.hid (fun w1 (h1 : VS w1 A n vs) => ref_Key A n c vs w1 h1 (by omega) hb)
  have T4 := Lib.hid (fun w1 => value_Unkey s.data.toList w1 (by rw [Array.length_toList]; exact Nat.le_trans hs (by omega)))
  have T5 := Lib.hid (fun w1 => ref_Unkey s.data.toList w1 (by rw [Array.length_toList]; exact hs))
  have T6 := Lib.hid (fun g cap w1 (hx : VS w1 (some ⟨g, 0, none⟩) (n + 2) (vs ++ marks)) (hc : n + 2 ≤ cap) (h1 : VS w1 A n vs) => law_back A g cap n c vs w1 hx hc h1 (by omega))
  rw [bsOf_of] at T4 T5
  have hnn : n ≤ 9223372036854775807 := by omega
  have UL := Lib.hid (fun us (h : unkey s.data.toList = some us) => (show us.length ≤ 20000000 from Nat.le_trans (unkey_len h) (by rw [Array.length_toList]; exact hs)))
  obtain ⟨T, hT⟩ : ∃ T, bsOf (keyL vs) = T := ⟨_, rfl⟩
  obtain ⟨o, ho⟩ : ∃ o, unkey s.data.toList = o := ⟨_, rfl⟩
  rw [hT] at T2 T3
  rw [ho] at T4 T5 UL
  have H := Lib.hid h
  have HX0 := Lib.hid hmax
  have HM := Lib.hid (marks_at h.1).2.2
  clear h hn hb hs hT ho hmax
  have f1 : (T.toList == T.toList) = true := by simp
  go_enter Tryd.func3, Tryd.ntmps3
  cases o with
  | none =>
    go_wp2_with fail
    refine (T4.out _).mono ?_
    rintro e w1 ⟨rfl, hb1⟩
    have HB1 := Lib.hid hb1; have H1 := Lib.hid (H.out.keep hb1)
    clear hb1
    go_wp2_with fail
    refine (T5.out _).mono ?_
    rintro e w2 ⟨rfl, hb2⟩
    have HB2 := Lib.hid (bel_step HB1.out hb2 HB1.out.size); have H2 := Lib.hid (H1.out.keep hb2)
    clear hb2
    go_wp2_with fail
    refine (T1.out _ H2.out).mono ?_
    rintro e w3 ⟨g, cap, rfl, hcap, hx, hb3⟩
    have HX := Lib.hid hx; have HB3 := Lib.hid (bel_step HB2.out hb3 HB2.out.size); have H3 := Lib.hid (H2.out.keep hb3)
    have HT := Lib.hid (show VS w3 (some ⟨g, 0, none⟩) n vs by have := hx.take (k := n) (by omega); rw [HM.out] at this; exact this)
    have i1 : (n : Int) ≤ (cap : Int) := by omega
    clear hx hb3
    go_wp2_with fail
    refine (T2.out _ _ _ HT.out (HX0.out.below HB3.out)).mono ?_
    rintro e w4 ⟨rfl, hb4⟩
    have HX4 := Lib.hid (HX.out.keep hb4); have HB4 := Lib.hid (bel_step HB3.out hb4 HB3.out.size); have H4 := Lib.hid (H3.out.keep hb4)
    clear hb4
    go_wp2_with fail
    refine (T3.out _ H4.out).mono ?_
    rintro e w5 ⟨rfl, hb5⟩
    have HX5 := Lib.hid (HX4.out.keep hb5); have HB5 := Lib.hid (bel_step HB4.out hb5 HB4.out.size); have H5 := Lib.hid (H4.out.keep hb5)
    clear hb5
    have TV : Hid (∀ w1, Calls Tryd.prog 12 #[.slice none 0 0, .slice none 0 0] w1 fun e w' => e = .returned (.bool true) ∧ Below w1.heap.size w1 w') := fun w1 => law_sameValues none none 0 0 0 [] w1 ⟨rfl, fun h => absurd h (by omega)⟩ ⟨rfl, fun h => absurd h (by omega)⟩ (by omega)
    have TS : Hid (∀ w1, Calls Tryd.prog 14 #[.slice none 0 0] w1 (SpoilPost w1 (.slice none 0 0))) := fun w1 => law_spoil w1.heap.size (.slice none 0 0) 0 [] w1 (World.ownsRow_nil _ _ _ _) (Nat.le_refl _) (by omega)
    go_wp2_with (first | (go_at_call 13; refine (law_num7 _ _).mono ?_; rintro e w1 ⟨rfl, rfl⟩) | (go_at_call 11; (with_reducible refine (T6.out _ _ _ HX5.out hcap H5.out).mono ?_); rintro e w6 ⟨rfl, hb6⟩; have HB6 := Lib.hid (bel_step HB5.out hb6 HB5.out.size); clear hb6) | (go_at_call 12; (with_reducible refine (TV.out _).mono ?_); rintro e w7 ⟨rfl, hb7⟩; have HB7 := Lib.hid (bel_step HB6.out hb7 HB6.out.size); clear hb7) | (go_at_call 14; (with_reducible refine (TS.out _).mono ?_); rintro e w8 ⟨rfl, hg8⟩; have HB8 := Lib.hid (HB7.out.grown hg8 HB7.out.size (fun k hk => by cases hk)); clear hg8))
    refine (T4.out _).mono ?_
    rintro e w9 ⟨rfl, hb9⟩
    have HB9 := Lib.hid (bel_step HB8.out hb9 HB8.out.size)
    clear hb9
    go_wp2_with fail
    refine (TV.out _).mono ?_
    rintro e w10 ⟨rfl, hb10⟩
    have HB10 := Lib.hid (bel_step HB9.out hb10 HB9.out.size)
    clear hb10
    go_wp2_with fail
    go_ret
    exact ⟨rfl, HB10.out⟩
  | some us =>
    have hu := UL.out us rfl
    have TV := Lib.hid (fun (B C : Option Addr) cb cc w1 (h1 : VS w1 B us.length us) (h2 : VS w1 C us.length us) => law_sameValues B C us.length cb cc us w1 h1 h2 (by omega))
    have TS := Lib.hid (fun (B : Nat) (v : Value) w1 (ho : w1.ownsRow B 38 3 v us.length (cellsV us)) (hB : B ≤ w1.heap.size) => law_spoil B v us.length us w1 ho hB (by omega))
    go_wp2_with fail
    refine (T4.out _).mono ?_
    rintro e w1 ⟨m, rfl, hm1, hb1⟩
    have HB1 := Lib.hid hb1; have H1 := Lib.hid (H.out.keep hb1)
    have HM1 := Lib.hid hm1
    clear hb1 hm1
    go_wp2_with fail
    refine (T5.out _).mono ?_
    rintro e w2 ⟨q, rfl, hq2, hb2⟩
    have HB2 := Lib.hid (bel_step HB1.out hb2 HB1.out.size); have H2 := Lib.hid (H1.out.keep hb2)
    have HM2 := Lib.hid (own_keep HM1.out hb2)
    have HQ2 := Lib.hid hq2
    have MQ := Lib.hid (fun k hk => (HM1.out.lt k hk).2)
    clear hb2 hq2
    go_wp2_with fail
    refine (T1.out _ H2.out).mono ?_
    rintro e w3 ⟨g, cap, rfl, hcap, hx, hb3⟩
    have HX := Lib.hid hx; have HB3 := Lib.hid (bel_step HB2.out hb3 HB2.out.size); have H3 := Lib.hid (H2.out.keep hb3)
    have HT := Lib.hid (show VS w3 (some ⟨g, 0, none⟩) n vs by have := hx.take (k := n) (by omega); rw [HM.out] at this; exact this)
    have HM3 := Lib.hid (own_keep HM2.out hb3); have HQ3 := Lib.hid (own_keep HQ2.out hb3)
    have i1 : (n : Int) ≤ (cap : Int) := by omega
    clear hx hb3
    go_wp2_with fail
    refine (T2.out _ _ _ HT.out (HX0.out.below HB3.out)).mono ?_
    rintro e w4 ⟨rfl, hb4⟩
    have HX4 := Lib.hid (HX.out.keep hb4); have HB4 := Lib.hid (bel_step HB3.out hb4 HB3.out.size); have H4 := Lib.hid (H3.out.keep hb4)
    have HM4 := Lib.hid (own_keep HM3.out hb4); have HQ4 := Lib.hid (own_keep HQ3.out hb4)
    clear hb4
    go_wp2_with fail
    refine (T3.out _ H4.out).mono ?_
    rintro e w5 ⟨rfl, hb5⟩
    have HX5 := Lib.hid (HX4.out.keep hb5); have HB5 := Lib.hid (bel_step HB4.out hb5 HB4.out.size); have H5 := Lib.hid (H4.out.keep hb5)
    have HM5 := Lib.hid (own_keep HM4.out hb5); have HQ5 := Lib.hid (own_keep HQ4.out hb5)
    clear hb5
    obtain ⟨Am, cm, rfl, _, hm5⟩ := vs_own HM5.out
    obtain ⟨Aq, cq, rfl, _, hq5⟩ := vs_own HQ5.out
    have VM5 := Lib.hid hm5; have VQ5 := Lib.hid hq5
    clear hm5 hq5
    go_wp2_with (first | (go_at_call 13; refine (law_num7 _ _).mono ?_; rintro e w1 ⟨rfl, rfl⟩) | (go_at_call 11; (with_reducible refine (T6.out _ _ _ HX5.out hcap H5.out).mono ?_); rintro e w6 ⟨rfl, hb6⟩; have HB6 := Lib.hid (bel_step HB5.out hb6 HB5.out.size); have VM6 := Lib.hid (VM5.out.keep hb6); have VQ6 := Lib.hid (VQ5.out.keep hb6); have HM6 := Lib.hid (own_keep HM5.out hb6); have HQ6 := Lib.hid (own_keep HQ5.out hb6); clear hb6) | (go_at_call 12; (with_reducible refine (TV.out _ _ _ _ _ VM6.out VQ6.out).mono ?_); rintro e w7 ⟨rfl, hb7⟩; have HB7 := Lib.hid (bel_step HB6.out hb7 HB6.out.size); have HM7 := Lib.hid (own_keep HM6.out hb7); have HQ7 := Lib.hid (own_keep HQ6.out hb7); clear hb7))
    refine (TS.out _ _ _ HM7.out HB7.out.size).mono ?_
    rintro e w8 ⟨rfl, hg8⟩
    have HB8 := Lib.hid (HB7.out.grown hg8 HB7.out.size (fun k hk => (HM7.out.lt k hk).1))
    have HQ8 := Lib.hid (HQ7.out.kept hg8 (own_apart HQ7.out MQ.out))
    clear hg8
    go_wp2_with fail
    refine (T4.out _).mono ?_
    rintro e w9 ⟨m2, rfl, hm9, hb9⟩
    have HB9 := Lib.hid (bel_step HB8.out hb9 HB8.out.size)
    have HQ9 := Lib.hid (own_keep HQ8.out hb9)
    obtain ⟨A2, c2, rfl, _, hv2⟩ := vs_own hm9
    obtain ⟨A3, c3, h3, _, hq9⟩ := vs_own HQ9.out
    obtain ⟨rfl, rfl⟩ : Aq = A3 ∧ cq = c3 := by injection h3 with e1 e2 e3; exact ⟨e1, e3⟩
    have V2 := Lib.hid hv2; have VQ9 := Lib.hid hq9
    clear hb9 hm9 hv2 hq9 h3
    go_wp2_with fail
    refine (TV.out _ _ _ _ _ V2.out VQ9.out).mono ?_
    rintro e w10 ⟨rfl, hb10⟩
    have HB10 := Lib.hid (bel_step HB9.out hb10 HB9.out.size)
    clear hb10
    go_wp2_with fail
    go_ret
    exact ⟨rfl, HB10.out⟩

end Go.Proofs.YtlkkpgdgnnknpaaDoor
