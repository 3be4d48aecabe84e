/-
  slotAt of package wal; slot, slotOf of the reference.
-/
import Derived.Test.YtjihboddejaelaaLog1
import Derived.Test.YtjihboddejaelaaDiskR1
namespace Go.Proofs.Ytjihboddejaelaa
open Go.RowKit
open Go.BigFrame
set_option linter.unusedVariables false
set_option linter.unusedSimpArgs false

theorem extr_part (s : ByteArray) (a b : Nat) : s.extract a b = bsOf (partL s.data.toList a (b - a)) := by
  rw [← bsOf_of (s.extract a b), Lib.extract_data]
  congr 1
theorem beK_unK : ∀ (l : List UInt8) (k : Nat), l.length = k → beK (unK l) k = l := by
  intro l k
  induction k generalizing l with
  | zero => intro h; rw [List.eq_nil_of_length_eq_zero h]; rfl
  | succ k ih =>
    intro h
    obtain ⟨r, b, rfl⟩ : ∃ r b, l = r ++ [b] := ⟨l.dropLast, l.getLast (by intro e; rw [e] at h; cases h), (List.dropLast_concat_getLast _).symm⟩
    have hb := byte_lt b
    rw [unK_snoc, beK, show (256 * unK r + b.toNat) / 256 = unK r by omega, ih r (by simpa using h)]
    congr 2
    apply UInt8.toNat_inj.1
    rw [UInt8.toNat_ofNat']; omega
theorem partL_zero (l : List UInt8) (n : Nat) : partL l 0 n = l.take n := by unfold partL; rw [List.drop_zero]
theorem take12 {t : List UInt8} (ht : t.length = 24) : t.take 12 = t.take 4 ++ partL t 4 4 ++ partL t 8 4 := by
  refine List.ext_getElem? fun i => ?_
  rw [List.getElem?_take]
  rcases Nat.lt_or_ge i 4 with h | h
  · rw [if_pos (by omega), List.append_assoc, List.getElem?_append_left (by simp; omega), List.getElem?_take, if_pos h]
  · rcases Nat.lt_or_ge i 8 with h2 | h2
    · rw [if_pos (by omega), List.append_assoc, List.getElem?_append_right (by simp; omega), List.getElem?_append_left (by simp [partL_len]; omega), partL_get, if_pos (by simp; omega)]
      congr 1; simp; omega
    · rw [List.append_assoc, List.getElem?_append_right (by simp; omega), List.getElem?_append_right (by simp [partL_len]; omega), partL_get]
      simp only [List.length_take, partL_len, ht]
      split
      · rw [if_pos (by omega)]; congr 1; omega
      · rw [if_neg (by omega)]
theorem slotL_parts {t : List UInt8} (ht : t.length = 24) : t.take 12 = t.drop 12 ↔ t = slotL (unK (t.take 4)) (unK (partL t 4 4)) (unK (partL t 8 4)) := by
  have e : slotL (unK (t.take 4)) (unK (partL t 4 4)) (unK (partL t 8 4)) = t.take 12 ++ t.take 12 := by
    unfold slotL
    rw [beK_unK _ 4 (by simp; omega), beK_unK _ 4 (by simp [partL_len]; omega), beK_unK _ 4 (by simp [partL_len]; omega), ← take12 ht]
  rw [e]
  constructor
  · intro h
    conv => lhs; rw [← List.take_append_drop 12 t, ← h]
  · intro h
    have : t.drop 12 = (t.take 12 ++ t.take 12).drop 12 := by rw [← h]
    rw [this, List.drop_append_of_le_length (by simp; omega), List.drop_of_length_le (by simp; omega), List.nil_append]
theorem slotOf_near {l : List UInt8} {k : Nat} (h : ¬ l.length < 40 + 24 * k) {t : List UInt8} (ht : partL l (16 + 24 * k) 24 = t) {n f p : Nat} (hn : unK (t.take 4) = n) (hf : unK (partL t 4 4) = f) (hp : unK (partL t 8 4) = p) :
    slotOf l k = if t = slotL n f p ∧ 1 ≤ n ∧ n ≤ 3 ∧ (f = 0 ∨ 64 + 1028 * f ≤ l.length) then (n, f, p) else (0, 0, 0) := by
  have hl : t.length = 24 := by rw [← ht, partL_len]; omega
  have e := slotL_parts hl
  unfold slotOf
  rw [if_neg h]
  simp only [ht, hn, hf, hp]
  rw [hn, hf, hp] at e
  by_cases hC : t = slotL n f p ∧ 1 ≤ n ∧ n ≤ 3 ∧ (f = 0 ∨ 64 + 1028 * f ≤ l.length)
  · rw [if_pos hC, if_neg]
    rintro (h1 | h1 | h1)
    · exact h1 (e.2 hC.1)
    · exact h1 ⟨hC.2.1, hC.2.2.1⟩
    · have := hC.2.2.2; omega
  · rw [if_neg hC, if_pos]
    by_cases h1 : t.take 12 = t.drop 12
    · refine .inr ?_
      by_cases h2 : 1 ≤ n ∧ n ≤ 3
      · refine .inr ?_
        by_cases h3 : f = 0 ∨ 64 + 1028 * f ≤ l.length
        · exact absurd ⟨e.1 h1, h2.1, h2.2, h3⟩ hC
        · omega
      · exact .inl h2
    · exact .inl h1
theorem results_tmp4 {fn : Func} {t u v x : Tmp} (h : fn.results = #[.tmp t, .tmp u, .tmp v, .tmp x]) (tmps : Array Value) (P : Program) (w : World) :
    (results fn tmps).run P w = .ok (.tuple #[tmps.getD t undef, tmps.getD u undef, tmps.getD v undef, tmps.getD x undef]) w := by
  simp [results, h]
/-- what slotAt says of a slot -/
def SlotIs (l : List UInt8) (k : Nat) (n f p : Nat) (b : Bool) : Prop := b = decide ((slotOf l k).1 ≠ 0) ∧ (b = true → slotOf l k = (n, f, p))
def SlotAtPost (w : World) (l : List UInt8) (k : Nat) (e : Ending) (w' : World) : Prop :=
  ∃ (n f p : Nat) (b : Bool), e = .returned (.tuple #[.int .i64 n, .int .i64 f, .int .i64 p, .bool b]) ∧ SlotIs l k n f p b ∧ Below w.heap.size w w'
theorem SlotIs.mk {l : List UInt8} {k n f p : Nat} {b : Bool} {C : Prop} [Decidable C] (h : slotOf l k = if C then (n, f, p) else (0, 0, 0)) (hn : C → 1 ≤ n) (hb : b = true ↔ C) : SlotIs l k n f p b := by
  unfold SlotIs
  rw [h]
  by_cases hC : C
  · have := hn hC
    rw [if_pos hC, hb.2 hC]
    exact ⟨by simp; omega, fun _ => rfl⟩
  · have hf : b = false := by cases b with
      | true => exact absurd (hb.1 rfl) hC
      | false => rfl
    rw [if_neg hC, hf]
    exact ⟨by simp, fun h => by cases h⟩
theorem slotOf_far {l : List UInt8} {k : Nat} (h : l.length < 40 + 24 * k) : slotOf l k = (0, 0, 0) := if_pos h

set_option maxRecDepth 100000 in
set_option maxHeartbeats 1600000 in
theorem wal_slotAt (s : ByteArray) (k : Nat) (hk : k < 2) (hs : s.size ≤ 67108864) (w : World) :
    Calls Try.prog 102 #[.string s, .int .i64 k] w (SlotAtPost w s.data.toList k) := by
  by_cases h1 : s.size < 40 + 24 * k
  · have E := Lib.hid (slotOf_far (l := s.data.toList) (k := k) (by simpa using h1))
    go_enter Try.func102, Try.ntmps102
    go_wp2_with fail
    ((try simp only [Exit.inBlock, Exit.then]); refine bodyPost_ret (results_tmp4 rfl _ _ _) rfl ?_)
    exact ⟨0, 0, 0, false, rfl, ⟨by rw [E.out]; rfl, fun h => by cases h⟩, Below.refl _ _⟩
  · obtain ⟨T, hT⟩ : ∃ T, s.extract (16 + 24 * k) (40 + 24 * k) = T := ⟨_, rfl⟩
    have hz : T.size = 24 := by rw [← hT, ByteArray.size_extract]; omega
    obtain ⟨T4, hT4⟩ : ∃ U, T.extract 4 24 = U := ⟨_, rfl⟩
    obtain ⟨T8, hT8⟩ : ∃ U, T.extract 8 24 = U := ⟨_, rfl⟩
    have hz4 : T4.size = 20 := by rw [← hT4, ByteArray.size_extract]; omega
    have hz8 : T8.size = 16 := by rw [← hT8, ByteArray.size_extract]; omega
    have N0 := Lib.hid (wal_number T (by omega))
    have N4 := Lib.hid (wal_number T4 (by omega))
    have N8 := Lib.hid (wal_number T8 (by omega))
    obtain ⟨n, hn⟩ : ∃ n, unK (T.data.toList.take 4) = n := ⟨_, rfl⟩
    obtain ⟨f, hf⟩ : ∃ n, unK (T4.data.toList.take 4) = n := ⟨_, rfl⟩
    obtain ⟨p, hp⟩ : ∃ n, unK (T8.data.toList.take 4) = n := ⟨_, rfl⟩
    have ln : n < 4294967296 := by rw [← hn]; exact unK_lt 4 _ (by simp; omega)
    have lf : f < 4294967296 := by rw [← hf]; exact unK_lt 4 _ (by simp; omega)
    have lp : p < 4294967296 := by rw [← hp]; exact unK_lt 4 _ (by simp; omega)
    have ST := Lib.hid (wal_slotText n f p (by omega) (by omega) (by omega))
    obtain ⟨S, hS⟩ : ∃ S, bsOf (slotL n f p) = S := ⟨_, rfl⟩
    rw [hn] at N0; rw [hf] at N4; rw [hp] at N8; rw [hS] at ST
    have E := Lib.hid (show slotOf s.data.toList k = if T.toList = S.toList ∧ 1 ≤ n ∧ n ≤ 3 ∧ (f = 0 ∨ 64 + 1028 * f ≤ s.size) then (n, f, p) else (0, 0, 0) by
      have hT2 : T.data.toList = partL s.data.toList (16 + 24 * k) 24 := by rw [← hT, extr_part, bsOf_data]; congr 1; omega
      have hf2 : unK (partL T.data.toList 4 4) = f := by rw [← hf, ← hT4, extr_part, bsOf_data]; unfold partL; simp [List.take_take]
      have hp2 : unK (partL T.data.toList 8 4) = p := by rw [← hp, ← hT8, extr_part, bsOf_data]; unfold partL; simp [List.take_take]
      have := slotOf_near (l := s.data.toList) (k := k) (by simpa using h1) hT2.symm hn hf2 hp2
      rw [this, Lib.toList_data, Lib.toList_data, ← hS, bsOf_data, Array.length_toList]
      rfl)
    have HS := Lib.hid hS; have HN := Lib.hid hn; have HF := Lib.hid hf; have HP := Lib.hid hp
    clear hS hn hf hp
    obtain rfl | rfl : k = 0 ∨ k = 1 := by omega
    · rw [show ((0 : Nat) : Int) = 0 from rfl]
      go_enter Try.func102, Try.ntmps102
      go_wp2_with fail
      refine wp_region_cls (w) (by kernel_rfl) (by kernel_rfl) (Cls.start _) ?_
      repeat
        first
          | go_big_quiet_skip
          | (go_big_quiet_want; (first | go_big_quiet_op | go_simp); first | go_big_quiet_on | (apply Exists.intro; refine ⟨fun w' hw' => ?_, ?_⟩; (· (first | (with_reducible exact rfl) | (first | (go_at_call 65; (with_reducible refine (N0.out _).mono ?_); rintro e w1 ⟨rfl, hb⟩; exact ⟨rfl, Cls.step hw' hb⟩) | (go_at_call 65; (with_reducible refine (N4.out _).mono ?_); rintro e w1 ⟨rfl, hb⟩; exact ⟨rfl, Cls.step hw' hb⟩) | (go_at_call 65; (with_reducible refine (N8.out _).mono ?_); rintro e w1 ⟨rfl, hb⟩; exact ⟨rfl, Cls.step hw' hb⟩)) | (obtain ⟨hc, hf⟩ := hw'.facts; go_simp; first | done | (with_reducible exact rfl) | (with_reducible exact ⟨rfl, rfl⟩)))); go_big_quiet_on))
      refine wpQuiet_nil ?_
      intro wq hq
      go_wp2_with (go_at_call 106; (with_reducible refine (ST.out _).mono ?_); rintro e w1 ⟨rfl, hb⟩; obtain ⟨hc, hf⟩ := bcell hb; have hz := hb.size; (try simp at hz))
      all_goals
        ((try simp only [Exit.inBlock, Exit.then]); refine bodyPost_ret (results_tmp4 rfl _ _ _) rfl ?_)
        first
          | refine ⟨n, f, p, _, rfl, SlotIs.mk E.out (fun h => h.2.1) ?_, bel_step hq.bel hb hq.bel.size⟩
          | refine ⟨n, 0, p, _, rfl, SlotIs.mk (C := T.toList = S.toList ∧ 1 ≤ n ∧ n ≤ 3) ?_ (fun h => h.2.1) ?_, bel_step hq.bel hb hq.bel.size⟩
        all_goals first
          | (have f0 : f = 0 := by assumption
             rw [E.out, f0]; simp; done)
          | (constructor
             · intro h
               first
                 | (cases h; done)
                 | exact ⟨by assumption, by omega, by omega⟩
                 | (refine ⟨by assumption, by omega, by omega, ?_⟩; simp at h; omega)
             · rintro ⟨h1, h2⟩
               first
                 | rfl
                 | exact absurd h1 (by assumption)
                 | (exfalso; omega)
                 | (simp; omega))
    · rw [show ((1 : Nat) : Int) = 1 from rfl]
      go_enter Try.func102, Try.ntmps102
      go_wp2_with fail
      refine wp_region_cls (w) (by kernel_rfl) (by kernel_rfl) (Cls.start _) ?_
      repeat
        first
          | go_big_quiet_skip
          | (go_big_quiet_want; (first | go_big_quiet_op | go_simp); first | go_big_quiet_on | (apply Exists.intro; refine ⟨fun w' hw' => ?_, ?_⟩; (· (first | (with_reducible exact rfl) | (first | (go_at_call 65; (with_reducible refine (N0.out _).mono ?_); rintro e w1 ⟨rfl, hb⟩; exact ⟨rfl, Cls.step hw' hb⟩) | (go_at_call 65; (with_reducible refine (N4.out _).mono ?_); rintro e w1 ⟨rfl, hb⟩; exact ⟨rfl, Cls.step hw' hb⟩) | (go_at_call 65; (with_reducible refine (N8.out _).mono ?_); rintro e w1 ⟨rfl, hb⟩; exact ⟨rfl, Cls.step hw' hb⟩)) | (obtain ⟨hc, hf⟩ := hw'.facts; go_simp; first | done | (with_reducible exact rfl) | (with_reducible exact ⟨rfl, rfl⟩)))); go_big_quiet_on))
      refine wpQuiet_nil ?_
      intro wq hq
      go_wp2_with (go_at_call 106; (with_reducible refine (ST.out _).mono ?_); rintro e w1 ⟨rfl, hb⟩; obtain ⟨hc, hf⟩ := bcell hb; have hz := hb.size; (try simp at hz))
      all_goals
        ((try simp only [Exit.inBlock, Exit.then]); refine bodyPost_ret (results_tmp4 rfl _ _ _) rfl ?_)
        first
          | refine ⟨n, f, p, _, rfl, SlotIs.mk E.out (fun h => h.2.1) ?_, bel_step hq.bel hb hq.bel.size⟩
          | refine ⟨n, 0, p, _, rfl, SlotIs.mk (C := T.toList = S.toList ∧ 1 ≤ n ∧ n ≤ 3) ?_ (fun h => h.2.1) ?_, bel_step hq.bel hb hq.bel.size⟩
        all_goals first
          | (have f0 : f = 0 := by assumption
             rw [E.out, f0]; simp; done)
          | (constructor
             · intro h
               first
                 | (cases h; done)
                 | exact ⟨by assumption, by omega, by omega⟩
                 | (refine ⟨by assumption, by omega, by omega, ?_⟩; simp at h; omega)
             · rintro ⟨h1, h2⟩
               first
                 | rfl
                 | exact absurd h1 (by assumption)
                 | (exfalso; omega)
                 | (simp; omega))

set_option maxRecDepth 100000 in
set_option maxHeartbeats 1600000 in
theorem ref_slot (n f p : Nat) (hn : n ≤ 4611686018427387904) (hf : f ≤ 4611686018427387904) (hp : p ≤ 4611686018427387904) (w : World) : Calls Try.prog 111 #[.int .i64 n, .int .i64 f, .int .i64 p] w fun e w' => e = .returned (.string (bsOf (slotL n f p))) ∧ Below w.heap.size w w' := by
  have T1 := Lib.hid (fun w => ref_bytes n 4 (by omega) (by omega) w)
  have T2 := Lib.hid (fun w => ref_bytes f 4 (by omega) (by omega) w)
  have T3 := Lib.hid (fun w => ref_bytes p 4 (by omega) (by omega) w)
  have E := Lib.hid (show bsOf (slotL n f p) = bsOf (beK n 4) ++ bsOf (beK f 4) ++ bsOf (beK p 4) ++ (bsOf (beK n 4) ++ bsOf (beK f 4) ++ bsOf (beK p 4)) by simp only [bsOf_append, slotL])
  rw [E.out]
  obtain ⟨s1, hs1⟩ : ∃ s, bsOf (beK n 4) = s := ⟨_, rfl⟩
  obtain ⟨s2, hs2⟩ : ∃ s, bsOf (beK f 4) = s := ⟨_, rfl⟩
  obtain ⟨s3, hs3⟩ : ∃ s, bsOf (beK p 4) = s := ⟨_, rfl⟩
  have z1 : s1.size = 4 := by rw [← hs1, bsOf_size, beK_len]
  have z2 : s2.size = 4 := by rw [← hs2, bsOf_size, beK_len]
  have z3 : s3.size = 4 := by rw [← hs3, bsOf_size, beK_len]
  have u1 : (n : Int) % 18446744073709551616 = n := by omega
  have u2 : (f : Int) % 18446744073709551616 = f := by omega
  have u3 : (p : Int) % 18446744073709551616 = p := by omega
  simp only [hs1, hs2, hs3, show ((4 : Nat) : Int) = 4 from rfl] at T1 T2 T3 ⊢
  clear E hs1 hs2 hs3
  go_enter Try.func111, Try.ntmps111
  go_wp2_with (first | (go_at_call 81; (with_reducible refine (T1.out _).mono ?_); rintro e w1 ⟨rfl, hb⟩; obtain ⟨hc, hf⟩ := bcell hb; have hz := hb.size; (try simp at hz)) | (go_at_call 81; (with_reducible refine (T2.out _).mono ?_); rintro e w1 ⟨rfl, hb⟩; obtain ⟨hc, hf⟩ := bcell hb; have hz := hb.size; (try simp at hz)) | (go_at_call 81; (with_reducible refine (T3.out _).mono ?_); rintro e w1 ⟨rfl, hb⟩; obtain ⟨hc, hf⟩ := bcell hb; have hz := hb.size; (try simp at hz)))
  go_ret
  rename_i wa ha _ _ za wb hb2 _ _ zb
  exact ⟨rfl, bel_step (bel_step ha hb2 za) hb (Nat.le_trans za zb)⟩

end Go.Proofs.Ytjihboddejaelaa
