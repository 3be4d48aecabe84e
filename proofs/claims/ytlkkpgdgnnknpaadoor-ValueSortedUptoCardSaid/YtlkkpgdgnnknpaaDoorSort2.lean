/-
  The law ValueSorted.
-/
import Derived.Test.YtlkkpgdgnnknpaaDoorSort1
import Derived.Test.YtlkkpgdgnnknpaaDoorKey2
import Derived.Test.YtlkkpgdgnnknpaaDoorSr
namespace Go.Proofs.YtlkkpgdgnnknpaaDoor
open Go.RowKit
open Go.BigFrame
set_option linter.unusedVariables false
set_option linter.unusedSimpArgs false

theorem pack_bad {vs : List Val} (h : badL vs) : packS vs = ⟨#[]⟩ ∧ packE vs = 8 := ⟨if_pos h, if_pos h⟩
theorem pack_good {vs : List Val} (h : ¬ badL vs) : packS vs = bsOf (UInt8.ofNat vs.length :: packL vs) ∧ packE vs = 0 := ⟨if_neg h, if_neg h⟩
theorem packL_len {vs : List Val} (h : ¬ badL vs) : (UInt8.ofNat vs.length :: packL vs).length ≤ 9223372036854775807 := by
  have hl : vs.length ≤ 64 := Nat.le_of_not_lt fun h2 => h (.inl h2)
  have hs : ∀ v ∈ vs, ¬ bigV v := fun v hv h2 => h (.inr ⟨v, hv, h2⟩)
  have : ∀ us : List Val, (∀ v ∈ us, ¬ bigV v) → (packL us).length ≤ 1003 * us.length := by
    intro us
    induction us with
    | nil => intro _; exact Nat.le_refl _
    | cons a r ih =>
      intro h
      have h1 := pack_len a (h a List.mem_cons_self)
      have h2 := ih fun v hv => h v (List.mem_cons_of_mem _ hv)
      have e : (packL (a :: r)).length = (packV a).length + (packL r).length := by simp [packL]
      rw [e, List.length_cons]; omega
  have := this vs hs
  rw [List.length_cons]; omega

set_option maxRecDepth 100000 in
set_option maxHeartbeats 6400000 in
theorem law_ValueSorted (A : Option Addr) (n c : Nat) (vs : List Val) (A' : Option Addr) (n' c' : Nat) (vs' : List Val) (w : World) (h : VS w A n vs) (h' : VS w A' n' vs') (hn : n ≤ 20000000) (hn' : n' ≤ 20000000)
    (hb : (keyL vs).length ≤ 50000000) (hb' : (keyL vs').length ≤ 50000000) (ho : ∀ v ∈ vs, OkN v) (ho' : ∀ v ∈ vs', OkN v) (hmax : HasMax w) :
    Calls Tryd.prog 4 #[.slice A n c, .slice A' n' c'] w fun e w' => e = .returned (.bool true) ∧ Below w.heap.size w w' := by
  have T1 := Lib.hid (fun w1 (h1 : VS w1 A n vs) (h2 : HasMax w1) => value_Key A n c vs w1 h1 (by omega) h2 hb)
  have T2 := Lib.hid (fun w1 (h1 : VS w1 A' n' vs') (h2 : HasMax w1) => value_Key A' n' c' vs' w1 h1 (by omega) h2 hb')
  have T3 := Lib.hid (fun w1 (h1 : VS w1 A n vs) (h2 : VS w1 A' n' vs') => value_Rows A A' n n' c c' vs vs' w1 h1 h2 (by omega) (by omega))
  have T4 : Hid (∀ w1, Calls Tryd.prog 17 #[.agg #[.int .i64 2, .int .i64 (-1), .string ⟨#[]⟩], .agg #[.int .i64 2, .int .i64 1, .string ⟨#[]⟩]] w1 fun e w' => e = .returned (.int .i64 (-1)) ∧ Below w1.heap.size w1 w') := fun w1 => value_Order 2 (-1) ⟨#[]⟩ 2 1 ⟨#[]⟩ w1
  have T5 := Lib.hid (fun w1 => value_Unkey (keyL vs) w1 hb)
  rw [unkey_key ho] at T5
  have T6 := Lib.hid (fun w1 (h1 : VS w1 A n vs) => keep_clean A n c vs w1 h1 (by omega))
  have T7 := Lib.hid (fun (B C : Option Addr) cb cc w1 (h1 : VS w1 B vs.length (vs.map cleanV)) (h2 : VS w1 C vs.length (vs.map cleanV)) => keep_sameValues B C vs.length cb cc (vs.map cleanV) w1 h1 h2 (by rw [h.1]; omega))
  have T8 := Lib.hid (fun w1 (h1 : VS w1 A n vs) => value_Pack A n c vs w1 h1 (by omega))
  have SG := keys_sign ho ho'
  obtain ⟨R, hR⟩ : ∃ R, rowsV vs vs' = R := ⟨_, rfl⟩
  obtain ⟨S, hS⟩ : ∃ S, bsOf (keyL vs) = S := ⟨_, rfl⟩
  obtain ⟨S', hS'⟩ : ∃ S, bsOf (keyL vs') = S := ⟨_, rfl⟩
  have q1 : S.toList = keyL vs := by rw [← hS, Lib.toList_data, bsOf_data]
  have q2 : S'.toList = keyL vs' := by rw [← hS', Lib.toList_data, bsOf_data]
  obtain ⟨bl, hbl⟩ : ∃ b, Op.bytesLess S.toList S'.toList = b := ⟨_, rfl⟩
  obtain ⟨be, hbe⟩ : ∃ b, (S.toList == S'.toList) = b := ⟨_, rfl⟩
  rw [← q1, ← q2, hbl, hbe, hR] at SG
  rw [hS] at T1 T5
  rw [hS'] at T2
  rw [hR] at T3
  have H := Lib.hid h
  have H' := Lib.hid h'
  have HX := Lib.hid hmax
  have LN := Lib.hid h.1
  have HOK := Lib.hid ho
  have SG2 : signV bl (!bl && !be) = R := by rw [← SG]; cases bl <;> cases be <;> rfl
  have T9 := Lib.hid (fun (hg : ¬ badL vs) w1 => value_Unpack (UInt8.ofNat vs.length :: packL vs) w1 (packL_len hg))
  have TP := Lib.hid (fun (hg : ¬ badL vs) => unpack_pack ho hg)
  clear h h' hn hn' hb hb' hS hS' hR q1 q2 hmax ho ho' SG
  go_enter Tryd.func4, Tryd.ntmps4
  go_wp2_with fail
  refine (T1.out _ H.out HX.out).mono ?_
  rintro e w1 ⟨rfl, hb1⟩
  have HB1 := Lib.hid hb1; have H1 := Lib.hid (H.out.keep hb1); have H1' := Lib.hid (H'.out.keep hb1); have HX1 := Lib.hid (HX.out.below hb1)
  clear hb1
  go_wp2_with fail
  refine (T2.out _ H1'.out HX1.out).mono ?_
  rintro e w2 ⟨rfl, hb2⟩
  have HB2 := Lib.hid (bel_step HB1.out hb2 HB1.out.size); have H2 := Lib.hid (H1.out.keep hb2); have H2' := Lib.hid (H1'.out.keep hb2)
  clear hb2
  go_wp2_with (go_at_call 15; refine (keep_sign _ _ _).mono ?_; rintro e w1 ⟨rfl, rfl⟩)
  refine (T3.out _ H2.out H2'.out).mono ?_
  rintro e w3 ⟨rfl, hb3⟩
  have HB3 := Lib.hid (bel_step HB2.out hb3 HB2.out.size); have H3 := Lib.hid (H2.out.keep hb3)
  clear hb3
  go_wp2_with fail
  refine (T4.out _).mono ?_
  rintro e w4 ⟨rfl, hb4⟩
  have HB4 := Lib.hid (bel_step HB3.out hb4 HB3.out.size); have H4 := Lib.hid (H3.out.keep hb4)
  clear hb4
  go_wp2_with fail
  refine (T5.out _).mono ?_
  rintro e w5 ⟨m, rfl, hm5, hb5⟩
  rw [List.length_map] at hm5
  have HB5 := Lib.hid (bel_step HB4.out hb5 HB4.out.size); have H5 := Lib.hid (H4.out.keep hb5)
  have HM5 := Lib.hid hm5
  clear hb5 hm5
  obtain ⟨Am, cm, rfl, _, vm5⟩ := vs_own HM5.out
  have VM5 := Lib.hid vm5
  clear vm5
  go_wp2_with fail
  refine (T6.out _ H5.out).mono ?_
  rintro e w6 ⟨m2, rfl, hm6, hb6⟩
  have HB6 := Lib.hid (bel_step HB5.out hb6 HB5.out.size); have H6 := Lib.hid (H5.out.keep hb6); have VM6 := Lib.hid (VM5.out.keep hb6)
  obtain ⟨Ac, cc, rfl, _, vc6⟩ := vs_own hm6
  have VC6 := Lib.hid vc6
  clear hb6 hm6 vc6
  go_wp2_with fail
  refine (T7.out _ _ _ _ _ VM6.out VC6.out).mono ?_
  rintro e w7 ⟨rfl, hb7⟩
  have HB7 := Lib.hid (bel_step HB6.out hb7 HB6.out.size); have H7 := Lib.hid (H6.out.keep hb7)
  clear hb7
  by_cases hbad : badL vs
  · rw [(pack_bad hbad).1, (pack_bad hbad).2] at T8
    go_wp2_with fail
    refine (T8.out _ H7.out).mono ?_
    rintro e w8 ⟨rfl, hb8⟩
    have HB8 := Lib.hid (bel_step HB7.out hb8 HB7.out.size)
    clear hb8
    go_wp2_with fail
    go_ret
    exact ⟨rfl, HB8.out⟩
  · have T10 := Lib.hid (T9.out hbad)
    rw [(pack_good hbad).1, (pack_good hbad).2] at T8
    rw [TP.out hbad] at T10
    obtain ⟨P, hP⟩ : ∃ P, bsOf (UInt8.ofNat vs.length :: packL vs) = P := ⟨_, rfl⟩
    rw [hP] at T8 T10
    clear hP
    go_wp2_with fail
    refine (T8.out _ H7.out).mono ?_
    rintro e w8 ⟨rfl, hb8⟩
    have HB8 := Lib.hid (bel_step HB7.out hb8 HB7.out.size); have H8 := Lib.hid (H7.out.keep hb8)
    clear hb8
    go_wp2_with fail
    refine (T10.out _).mono ?_
    rintro e w9 ⟨m, rfl, hm9, hb9⟩
    rw [List.length_map] at hm9
    have HB9 := Lib.hid (bel_step HB8.out hb9 HB8.out.size); have H9 := Lib.hid (H8.out.keep hb9)
    obtain ⟨Au, cu, rfl, _, vu9⟩ := vs_own hm9
    have VU9 := Lib.hid vu9
    clear hb9 hm9 vu9
    go_wp2_with fail
    refine (T6.out _ H9.out).mono ?_
    rintro e w10 ⟨m2, rfl, hm10, hb10⟩
    have HB10 := Lib.hid (bel_step HB9.out hb10 HB9.out.size); have VU10 := Lib.hid (VU9.out.keep hb10)
    obtain ⟨Ad, cd, rfl, _, vd10⟩ := vs_own hm10
    have VD10 := Lib.hid vd10
    clear hb10 hm10 vd10
    go_wp2_with fail
    refine (T7.out _ _ _ _ _ VU10.out VD10.out).mono ?_
    rintro e w11 ⟨rfl, hb11⟩
    have HB11 := Lib.hid (bel_step HB10.out hb11 HB10.out.size)
    clear hb11
    go_wp2_with fail
    go_ret
    exact ⟨rfl, HB11.out⟩
end Go.Proofs.YtlkkpgdgnnknpaaDoor
