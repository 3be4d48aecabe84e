/-
  Keys as bytes, in plain Lean: what Key makes, what Unkey reads. No program in sight.
-/
import Derived.Test.YtlkkpgdgnnknpaaDoorCode0
namespace Go.Proofs.YtlkkpgdgnnknpaaDoor
open Go.RowKit
set_option linter.unusedVariables false
set_option linter.unusedSimpArgs false

/-- a text's bytes, each 0 followed by 255 -/
def esc : List UInt8 → List UInt8
  | [] => []
  | c :: r => if c = 0 then 0 :: 255 :: esc r else c :: esc r
theorem esc_append : ∀ a b : List UInt8, esc (a ++ b) = esc a ++ esc b
  | [], b => rfl
  | c :: a, b => by
    rw [List.cons_append, esc, esc, esc_append a b]
    split <;> rfl
theorem esc_len : ∀ a : List UInt8, a.length ≤ (esc a).length ∧ (esc a).length ≤ 2 * a.length
  | [] => by simp [esc]
  | c :: a => by
    have := esc_len a
    rw [esc]
    split <;> simp only [List.length_cons] <;> omega
/-- a number as it stands in a key -/
def keyN (n : Int) : Nat := (u64N n + 9223372036854775808) % 18446744073709551616
theorem keyN_lt (n : Int) : keyN n < 18446744073709551616 := Nat.mod_lt _ (by omega)
/-- the bytes of a clean value -/
def keyC (v : Val) : List UInt8 :=
  if v.k = 1 then [UInt8.ofNat (2 + v.n.toNat)] else if v.k = 2 then 4 :: beK (keyN v.n) 8 else if v.k = 3 then 5 :: (esc v.s.data.toList ++ [0, 1]) else [1]
def keyV (v : Val) : List UInt8 := keyC (cleanV v)
def keyL (vs : List Val) : List UInt8 := vs.flatMap keyV
theorem keyL_snoc (vs : List Val) (v : Val) : keyL (vs ++ [v]) = keyL vs ++ keyV v := by simp [keyL]
theorem keyC_len (v : Val) : 1 ≤ (keyC v).length ∧ (keyC v).length ≤ 9 + 2 * v.s.size := by
  unfold keyC
  split
  · simp; omega
  · split
    · simp [beK_len]
    · split
      · have := esc_len v.s.data.toList
        have e : v.s.data.toList.length = v.s.size := Array.length_toList
        simp only [List.length_cons, List.length_append, List.length_nil]
        omega
      · simp; omega
/-- a text that ends with 0, 1 -/
def unesc : List UInt8 → Option (List UInt8 × List UInt8)
  | [] => none
  | [c] => none
  | c :: d :: r => if c = 0 then (if d = 1 then some ([], r) else if d = 255 then (unesc r).map (fun x => (0 :: x.1, x.2)) else none) else (unesc (d :: r)).map (fun x => (c :: x.1, x.2))
theorem unesc_esc : ∀ (a r : List UInt8), unesc (esc a ++ 0 :: 1 :: r) = some (a, r)
  | [], r => by simp [esc, unesc]
  | c :: a, r => by
    have ih := unesc_esc a r
    rw [esc]
    by_cases hc : c = 0
    · subst hc
      rw [if_pos rfl]
      show unesc (0 :: 255 :: (esc a ++ 0 :: 1 :: r)) = _
      rw [unesc, if_pos rfl, if_neg (by decide), if_pos rfl, ih]; rfl
    · rw [if_neg hc, List.cons_append]
      obtain ⟨d, t, hd⟩ : ∃ d t, esc a ++ 0 :: 1 :: r = d :: t := by
        cases h : esc a with
        | nil => exact ⟨_, _, rfl⟩
        | cons x y => exact ⟨_, _, rfl⟩
      rw [hd] at ih ⊢
      rw [unesc, if_neg hc, ih]; rfl
theorem unesc_ok : ∀ (l a r : List UInt8), unesc l = some (a, r) → l = esc a ++ 0 :: 1 :: r
  | [], a, r, h => by simp [unesc] at h
  | [c], a, r, h => by simp [unesc] at h
  | c :: d :: l, a, r, h => by
    rw [unesc] at h
    by_cases hc : c = 0
    · subst hc
      rw [if_pos rfl] at h
      by_cases hd : d = 1
      · subst hd
        rw [if_pos rfl] at h
        cases h
        rfl
      · rw [if_neg hd] at h
        by_cases hd2 : d = 255
        · subst hd2
          rw [if_pos rfl] at h
          obtain ⟨⟨a', r'⟩, h1, h2⟩ := Option.map_eq_some_iff.1 h
          cases h2
          have := unesc_ok l a' _ h1
          rw [esc, if_pos rfl, this]; rfl
        · rw [if_neg hd2] at h; cases h
    · rw [if_neg hc] at h
      obtain ⟨⟨a', r'⟩, h1, h2⟩ := Option.map_eq_some_iff.1 h
      cases h2
      have := unesc_ok (d :: l) a' _ h1
      rw [esc, if_neg hc, this]; rfl
/-- one value -/
def oneK : List UInt8 → Option (Val × List UInt8)
  | [] => none
  | k :: r =>
    if k.toNat = 1 then some (⟨0, 0, ⟨#[]⟩⟩, r)
    else if k.toNat = 2 then some (⟨1, 0, ⟨#[]⟩⟩, r)
    else if k.toNat = 3 then some (⟨1, 1, ⟨#[]⟩⟩, r)
    else if k.toNat = 4 then (if 8 ≤ r.length then some (⟨2, s64 ((unK (r.take 8) + 9223372036854775808) % 18446744073709551616), ⟨#[]⟩⟩, r.drop 8) else none)
    else if k.toNat = 5 then (unesc r).map (fun x => (⟨3, 0, bsOf x.1⟩, x.2))
    else none
/-- a clean value with a number that is one -/
structure OkK (v : Val) : Prop where
  clean : cleanV v = v
  low : v.k = 2 → -9223372036854775808 ≤ v.n
  high : v.k = 2 → v.n ≤ 9223372036854775807
theorem top_twice {n : Nat} (h : n < 18446744073709551616) : ((n + 9223372036854775808) % 18446744073709551616 + 9223372036854775808) % 18446744073709551616 = n := by omega
theorem take_drop_key (a r : List UInt8) {n : Nat} (h : a.length = n) : (a ++ r).take n = a ∧ (a ++ r).drop n = r := by
  subst h; simp
theorem oneK_key {v : Val} (h : OkK v) (r : List UInt8) : oneK (keyC v ++ r) = some (v, r) := by
  rcases clean_cases h.clean with e | e | e | e | e
  · rw [e]; rfl
  · rw [e]; rfl
  · rw [e]; rfl
  · have h1 := h.low (by rw [e])
    have h2 := h.high (by rw [e])
    rw [e]
    show oneK (4 :: (beK (keyN v.n) 8 ++ r)) = _
    obtain ⟨t1, t2⟩ := take_drop_key (beK (keyN v.n) 8) r (beK_len 8 _)
    have h8 : 8 ≤ (beK (keyN v.n) 8 ++ r).length := by rw [List.length_append, beK_len]; omega
    rw [oneK, if_neg (by decide), if_neg (by decide), if_neg (by decide), if_pos (by decide), if_pos h8, t1, t2, unK_beK 8 _ (keyN_lt _)]
    unfold keyN
    rw [top_twice (u64N_lt _), s64_u64N h1 h2]
  · rw [e]
    show oneK (5 :: (esc v.s.data.toList ++ [0, 1] ++ r)) = _
    rw [oneK, if_neg (by decide), if_neg (by decide), if_neg (by decide), if_neg (by decide), if_pos (by decide), List.append_assoc]
    show (unesc (esc v.s.data.toList ++ 0 :: 1 :: r)).map _ = _
    rw [unesc_esc]
    simp [bsOf_of]
theorem oneK_ok {s r : List UInt8} {v : Val} (h : oneK s = some (v, r)) : OkK v ∧ s = keyC v ++ r := by
  cases s with
  | nil => simp [oneK] at h
  | cons k t =>
    rw [oneK] at h
    by_cases k1 : k.toNat = 1
    · rw [if_pos k1] at h
      cases h
      exact ⟨⟨rfl, (fun h => by cases h), (fun h => by cases h)⟩, by rw [byte_eq k1 (by omega)]; rfl⟩
    rw [if_neg k1] at h
    by_cases k2 : k.toNat = 2
    · rw [if_pos k2] at h
      cases h
      exact ⟨⟨rfl, (fun h => by cases h), (fun h => by cases h)⟩, by rw [byte_eq k2 (by omega)]; rfl⟩
    rw [if_neg k2] at h
    by_cases k3 : k.toNat = 3
    · rw [if_pos k3] at h
      cases h
      exact ⟨⟨rfl, (fun h => by cases h), (fun h => by cases h)⟩, by rw [byte_eq k3 (by omega)]; rfl⟩
    rw [if_neg k3] at h
    by_cases k4 : k.toNat = 4
    · rw [if_pos k4] at h
      split at h
      · rename_i h8
        cases h
        have hl : (t.take 8).length = 8 := by rw [List.length_take]; omega
        have hu : unK (t.take 8) < 18446744073709551616 := Nat.lt_of_lt_of_eq (unK_lt 8 (t.take 8) hl) (by decide)
        have hm : (unK (t.take 8) + 9223372036854775808) % 18446744073709551616 < 18446744073709551616 := Nat.mod_lt _ (by omega)
        obtain ⟨q1, q2⟩ := s64_range hm
        obtain ⟨X, hX⟩ : ∃ X, (unK (t.take 8) + 9223372036854775808) % 18446744073709551616 = X := ⟨_, rfl⟩
        rw [hX] at q1 q2 hm ⊢
        have e1 : (X + 9223372036854775808) % 18446744073709551616 = unK (t.take 8) := by rw [← hX]; exact top_twice hu
        refine ⟨⟨rfl, fun _ => q1, fun _ => q2⟩, ?_⟩
        show _ = 4 :: beK (keyN (s64 X)) 8 ++ t.drop 8
        rw [byte_eq k4 (by omega)]
        unfold keyN
        rw [u64N_s64 hm, e1, beK_unK 8 _ hl, List.cons_append, List.take_append_drop]; rfl
      · cases h
    rw [if_neg k4] at h
    by_cases k5 : k.toNat = 5
    · rw [if_pos k5] at h
      obtain ⟨⟨a, r'⟩, h1, h2⟩ := Option.map_eq_some_iff.1 h
      cases h2
      refine ⟨⟨rfl, (fun h => by cases h), (fun h => by cases h)⟩, ?_⟩
      show _ = 5 :: (esc (bsOf a).data.toList ++ [0, 1]) ++ _
      rw [bsOf_data, byte_eq k5 (by omega), unesc_ok _ _ _ h1]
      simp
    rw [if_neg k5] at h
    cases h
/-- all values -/
def unkeyF : Nat → List UInt8 → Option (List Val)
  | 0, s => if s = [] then some [] else none
  | n + 1, s => if s = [] then some [] else (oneK s).bind fun x => (unkeyF n x.2).map (x.1 :: ·)
def unkey (s : List UInt8) : Option (List Val) := unkeyF s.length s
/-- behind the values vs stands rest -/
def KeyAt (s rest : List UInt8) (vs : List Val) : Prop := ∃ m, rest.length ≤ m ∧ unkey s = (unkeyF m rest).map (vs ++ ·)
theorem KeyAt.start (s : List UInt8) : KeyAt s s [] := ⟨s.length, Nat.le_refl _, by simp [unkey]⟩
theorem KeyAt.done {s : List UInt8} {vs : List Val} (h : KeyAt s [] vs) : unkey s = some vs := by
  obtain ⟨m, _, h⟩ := h
  rw [h]
  cases m with
  | zero => rw [unkeyF, if_pos rfl]; simp
  | succ n => rw [unkeyF, if_pos rfl]; simp
theorem KeyAt.bad {s rest : List UInt8} {vs : List Val} (h : KeyAt s rest vs) (hr : rest ≠ []) (ho : oneK rest = none) : unkey s = none := by
  obtain ⟨m, _, h⟩ := h
  rw [h]
  cases m with
  | zero => rw [unkeyF, if_neg hr]; rfl
  | succ n => rw [unkeyF, if_neg hr, ho]; rfl
theorem KeyAt.step {s rest r : List UInt8} {vs : List Val} {v : Val} (h : KeyAt s rest vs) (ho : oneK rest = some (v, r)) : KeyAt s r (vs ++ [v]) ∧ r.length < rest.length := by
  have hr : rest ≠ [] := by rintro rfl; simp [oneK] at ho
  obtain ⟨m, hm, h⟩ := h
  have h2 := (oneK_ok ho).2
  have h3 := (keyC_len v).1
  have hl : r.length < rest.length := by rw [h2, List.length_append]; omega
  refine ⟨?_, hl⟩
  cases m with
  | zero => exact absurd (List.eq_nil_of_length_eq_zero (by omega)) hr
  | succ n =>
    refine ⟨n, by omega, ?_⟩
    rw [h, unkeyF, if_neg hr, ho]
    simp [Option.map_map, Function.comp_def]
/-- as the reference guesses a value -/
def refT : List UInt8 → List UInt8
  | [] => []
  | [_] => []
  | c :: d :: r => if c = 0 then (if d = 1 then [] else 0 :: refT r) else c :: refT (d :: r)
theorem refT_unesc : ∀ (l a r : List UInt8), unesc l = some (a, r) → refT l = a
  | [], a, r, h => by simp [unesc] at h
  | [c], a, r, h => by simp [unesc] at h
  | c :: d :: l, a, r, h => by
    rw [unesc] at h
    rw [refT]
    by_cases hc : c = 0
    · rw [if_pos hc] at h ⊢
      by_cases hd : d = 1
      · rw [if_pos hd] at h ⊢
        cases h; rfl
      · rw [if_neg hd] at h ⊢
        split at h
        · obtain ⟨⟨a', r'⟩, h1, h2⟩ := Option.map_eq_some_iff.1 h
          cases h2
          rw [refT_unesc l a' _ h1]
        · cases h
    · rw [if_neg hc] at h ⊢
      obtain ⟨⟨a', r'⟩, h1, h2⟩ := Option.map_eq_some_iff.1 h
      cases h2
      rw [refT_unesc (d :: l) a' _ h1]
def cand : List UInt8 → Val
  | [] => ⟨0, 0, ⟨#[]⟩⟩
  | k :: r =>
    if k.toNat = 2 ∨ k.toNat = 3 then ⟨1, flagN (k.toNat == 3), ⟨#[]⟩⟩
    else if k.toNat = 4 ∧ 8 ≤ r.length then ⟨2, s64 ((unK (r.take 8) + 9223372036854775808) % 18446744073709551616), ⟨#[]⟩⟩
    else if k.toNat = 5 then ⟨3, 0, bsOf (refT r)⟩
    else ⟨0, 0, ⟨#[]⟩⟩
theorem cand_ok {s r : List UInt8} {v : Val} (h : oneK s = some (v, r)) : cand s = v := by
  cases s with
  | nil => simp [oneK] at h
  | cons k t =>
    rw [oneK] at h
    rw [cand]
    by_cases k1 : k.toNat = 1
    · rw [if_pos k1] at h
      cases h
      rw [if_neg (by omega), if_neg (by omega), if_neg (by omega)]
    rw [if_neg k1] at h
    by_cases k2 : k.toNat = 2
    · rw [if_pos k2] at h
      cases h
      rw [if_pos (.inl k2), k2]; rfl
    rw [if_neg k2] at h
    by_cases k3 : k.toNat = 3
    · rw [if_pos k3] at h
      cases h
      rw [if_pos (.inr k3), k3]; rfl
    rw [if_neg k3] at h
    rw [if_neg (by omega)]
    by_cases k4 : k.toNat = 4
    · rw [if_pos k4] at h
      split at h
      · rename_i h8
        cases h
        rw [if_pos ⟨k4, h8⟩]
      · cases h
    rw [if_neg k4] at h
    rw [if_neg (by omega)]
    by_cases k5 : k.toNat = 5
    · rw [if_pos k5] at h ⊢
      obtain ⟨⟨a, r'⟩, h1, h2⟩ := Option.map_eq_some_iff.1 h
      cases h2
      rw [refT_unesc _ _ _ h1]
    rw [if_neg k5] at h
    cases h
theorem okK_num {X : Nat} (h : X < 18446744073709551616) : OkK ⟨2, s64 X, ⟨#[]⟩⟩ := by
  obtain ⟨q1, q2⟩ := s64_range h
  generalize s64 X = y at *
  exact ⟨rfl, (fun _ => q1), (fun _ => q2)⟩
theorem okK_flag (b : Bool) : OkK ⟨1, flagN b, ⟨#[]⟩⟩ := by
  cases b
  · exact ⟨rfl, (fun h => by cases h), (fun h => by cases h)⟩
  · exact ⟨rfl, (fun h => by cases h), (fun h => by cases h)⟩
theorem okK_text (s : ByteArray) : OkK ⟨3, 0, s⟩ := ⟨rfl, (fun h => by cases h), (fun h => by cases h)⟩
theorem okK_null : OkK ⟨0, 0, ⟨#[]⟩⟩ := ⟨rfl, (fun h => by cases h), (fun h => by cases h)⟩
theorem mod_top (x : Nat) : x % 18446744073709551616 < 18446744073709551616 := Nat.mod_lt _ (by omega)
theorem cand_okK (s : List UInt8) : OkK (cand s) := by
  cases s with
  | nil => exact okK_null
  | cons k t =>
    have hm := mod_top (unK (t.take 8) + 9223372036854775808)
    rw [cand]
    generalize (unK (t.take 8) + 9223372036854775808) % 18446744073709551616 = X at *
    by_cases h1 : k.toNat = 2 ∨ k.toNat = 3
    · rw [if_pos h1]; exact okK_flag _
    · rw [if_neg h1]
      by_cases h2 : k.toNat = 4 ∧ 8 ≤ t.length
      · rw [if_pos h2]; exact okK_num hm
      · rw [if_neg h2]
        by_cases h3 : k.toNat = 5
        · rw [if_pos h3]; exact okK_text _
        · rw [if_neg h3]; exact okK_null
/-- the reference's test: the guess's key stands there just if a value stands there -/
theorem cand_test (s : List UInt8) : (∃ r, s = keyV (cand s) ++ r) ↔ ∃ v r, oneK s = some (v, r) := by
  have ho := cand_okK s
  have hk : keyV (cand s) = keyC (cand s) := by unfold keyV; rw [ho.clean]
  constructor
  · rintro ⟨r, h⟩
    refine ⟨cand s, r, ?_⟩
    have := oneK_key ho r
    rw [← hk, ← h] at this
    exact this
  · rintro ⟨v, r, h⟩
    refine ⟨r, ?_⟩
    rw [hk, cand_ok h]
    exact (oneK_ok h).2
theorem cand_step {s r : List UInt8} (h : s = keyV (cand s) ++ r) : oneK s = some (cand s, r) := by
  have ho := cand_okK s
  have hk : keyV (cand s) = keyC (cand s) := by unfold keyV; rw [ho.clean]
  have := oneK_key ho r
  rw [← hk, ← h] at this
  exact this

end Go.Proofs.YtlkkpgdgnnknpaaDoor
