/-
  The order of keys is that of rows; what was packed reads again: plain Lean.
-/
import Derived.Test.YtlkkpgdgnnknpaaDoorKey0
import Derived.Test.YtlkkpgdgnnknpaaDoorRows0
namespace Go.Proofs.YtlkkpgdgnnknpaaDoor
open Go.RowKit
set_option linter.unusedVariables false
set_option linter.unusedSimpArgs false
open Lib (compareBytes)

def signV (a b : Bool) : Int := if a then -1 else if b then 1 else 0

theorem cb_same (a : UInt8) (x y : List UInt8) : compareBytes (a :: x) (a :: y) = compareBytes x y := by
  have h : ¬ a < a := UInt8.lt_irrefl a
  rw [compareBytes, if_neg h, if_neg h]
theorem cb_lt {a b : UInt8} (h : a < b) (x y : List UInt8) : compareBytes (a :: x) (b :: y) = -1 := by rw [compareBytes, if_pos h]
theorem cb_gt {a b : UInt8} (h : b < a) (x y : List UInt8) : compareBytes (a :: x) (b :: y) = 1 := by
  have h2 : ¬ a < b := fun h3 => absurd (UInt8.lt_trans h h3) (UInt8.lt_irrefl b)
  rw [compareBytes, if_neg h2, if_pos h]
theorem u8_three (a b : UInt8) : a < b ∨ a = b ∨ b < a := by
  rcases Nat.lt_trichotomy a.toNat b.toNat with h | h | h
  · exact .inl (UInt8.lt_iff_toNat_lt.2 h)
  · exact .inr (.inl (UInt8.toNat_inj.1 h))
  · exact .inr (.inr (UInt8.lt_iff_toNat_lt.2 h))
theorem cb_pre : ∀ (p x y : List UInt8), compareBytes (p ++ x) (p ++ y) = compareBytes x y
  | [], x, y => rfl
  | a :: p, x, y => by rw [List.cons_append, List.cons_append, cb_same, cb_pre p x y]

/-- the program's test of two texts -/
theorem sign_bytes : ∀ x y : List UInt8, signV (Op.bytesLess x y) (!(Op.bytesLess x y || x == y)) = compareBytes x y
  | [], [] => rfl
  | [], b :: y => rfl
  | a :: x, [] => rfl
  | a :: x, b :: y => by
    have ih := sign_bytes x y
    rcases u8_three a b with h | h | h
    · rw [cb_lt h, Op.bytesLess]
      have : decide (a < b) = true := decide_eq_true h
      rw [this]; rfl
    · subst h
      have h1 : decide (a < a) = false := decide_eq_false (UInt8.lt_irrefl a)
      have h2 : ((a :: x) == (a :: y)) = (x == y) := by simp
      rw [cb_same, Op.bytesLess, h1, h2, beq_self_eq_true, Bool.false_or, Bool.true_and]
      exact ih
    · have h3 : ¬ a < b := fun h3 => absurd (UInt8.lt_trans h h3) (UInt8.lt_irrefl b)
      have h1 : decide (a < b) = false := decide_eq_false h3
      have hne : a ≠ b := fun e => by subst e; exact UInt8.lt_irrefl a h
      have h2 : (a == b) = false := beq_eq_false_iff_ne.2 hne
      have h4 : ((a :: x) == (b :: y)) = false := by simp [hne]
      rw [cb_gt h, Op.bytesLess, h1, h2, h4]; rfl

/-- first this, then that -/
def thenI (a b : Int) : Int := if a ≠ 0 then a else b
theorem thenI_zero (b : Int) : thenI 0 b = b := rfl
theorem thenI_neg (b : Int) : thenI (-1) b = -1 := rfl
theorem thenI_one (b : Int) : thenI 1 b = 1 := rfl
theorem thenI_assoc (a b c : Int) : thenI (thenI a b) c = thenI a (thenI b c) := by
  unfold thenI
  by_cases h : a = 0 <;> simp [h]

theorem ordI_three (a b : Int) : (a < b ∧ ordI a b = -1) ∨ (a = b ∧ ordI a b = 0) ∨ (b < a ∧ ordI a b = 1) := by
  rcases Int.lt_trichotomy a b with h | h | h
  · exact .inl ⟨h, (ordI_lt h).symm⟩
  · subst h; exact .inr (.inl ⟨rfl, (ordI_eq (Int.lt_irrefl _) (Int.lt_irrefl _)).symm⟩)
  · exact .inr (.inr ⟨h, (ordI_gt h).symm⟩)
theorem u8_low (m : Nat) : (UInt8.ofNat m).toNat = m % 256 := UInt8.toNat_ofNat'
/-- a number's bytes, the highest first -/
theorem cb_beK : ∀ (k m m' : Nat) (x y : List UInt8), m < 256 ^ k → m' < 256 ^ k → compareBytes (beK m k ++ x) (beK m' k ++ y) = thenI (ordI m m') (compareBytes x y)
  | 0, m, m', x, y, h, h' => by
    obtain rfl : m = 0 := by simpa using h
    obtain rfl : m' = 0 := by simpa using h'
    rfl
  | k + 1, m, m', x, y, h, h' => by
    rw [beK, beK, List.append_assoc, List.append_assoc, cb_beK k (m / 256) (m' / 256) _ _ (Nat.div_lt_of_lt_mul (by rw [Nat.pow_succ, Nat.mul_comm] at h; exact h)) (Nat.div_lt_of_lt_mul (by rw [Nat.pow_succ, Nat.mul_comm] at h'; exact h'))]
    show thenI _ (compareBytes (UInt8.ofNat m :: x) (UInt8.ofNat m' :: y)) = _
    have q1 := u8_low m
    have q2 := u8_low m'
    rcases ordI_three ((m / 256 : Nat) : Int) ((m' / 256 : Nat) : Int) with ⟨h1, e1⟩ | ⟨h1, e1⟩ | ⟨h1, e1⟩
    · rw [e1, thenI_neg, ← ordI_lt (show (m : Int) < m' by omega), thenI_neg]
    · rw [e1, thenI_zero]
      rcases ordI_three (m : Int) (m' : Int) with ⟨h2, e2⟩ | ⟨h2, e2⟩ | ⟨h2, e2⟩
      · rw [e2, thenI_neg, cb_lt (UInt8.lt_iff_toNat_lt.2 (by omega))]
      · have : m = m' := by omega
        subst this
        rw [e2, thenI_zero, cb_same]
      · rw [e2, thenI_one, cb_gt (UInt8.lt_iff_toNat_lt.2 (by omega))]
    · rw [e1, thenI_one, ← ordI_gt (show (m' : Int) < m by omega), thenI_one]

theorem u8_pos {c : UInt8} (h : c ≠ 0) : 0 < c := by
  rw [UInt8.lt_iff_toNat_lt]
  rcases Nat.eq_zero_or_pos c.toNat with e | e
  · exact absurd (UInt8.toNat_inj.1 (show c.toNat = (0 : UInt8).toNat from e)) h
  · exact e
theorem esc_cons (c : UInt8) (a : List UInt8) : (c = 0 ∧ esc (c :: a) = 0 :: 255 :: esc a) ∨ (c ≠ 0 ∧ esc (c :: a) = c :: esc a) := by
  rw [esc]
  by_cases h : c = 0
  · exact .inl ⟨h, if_pos h⟩
  · exact .inr ⟨h, if_neg h⟩
/-- a text, closed -/
theorem cb_esc : ∀ (a b x y : List UInt8), compareBytes (esc a ++ 0 :: 1 :: x) (esc b ++ 0 :: 1 :: y) = thenI (compareBytes a b) (compareBytes x y)
  | [], [], x, y => by
    show compareBytes (0 :: 1 :: x) (0 :: 1 :: y) = _
    rw [cb_same, cb_same]; rfl
  | [], c :: b, x, y => by
    show compareBytes (0 :: 1 :: x) _ = thenI (-1) _
    rw [thenI_neg]
    rcases esc_cons c b with ⟨h, e⟩ | ⟨h, e⟩
    · rw [e]; show compareBytes (0 :: 1 :: x) (0 :: 255 :: _) = _
      rw [cb_same, cb_lt (by decide)]
    · rw [e]; exact cb_lt (u8_pos h) _ _
  | c :: a, [], x, y => by
    show compareBytes _ (0 :: 1 :: y) = thenI 1 _
    rw [thenI_one]
    rcases esc_cons c a with ⟨h, e⟩ | ⟨h, e⟩
    · rw [e]; show compareBytes (0 :: 255 :: _) (0 :: 1 :: y) = _
      rw [cb_same, cb_gt (by decide)]
    · rw [e]; exact cb_gt (u8_pos h) _ _
  | c :: a, d :: b, x, y => by
    have ih := cb_esc a b x y
    rcases u8_three c d with h | h | h
    · rw [cb_lt h, thenI_neg]
      rcases esc_cons d b with ⟨hd, ed⟩ | ⟨hd, ed⟩
      · subst hd; have := UInt8.lt_iff_toNat_lt.1 h; exact absurd this (Nat.not_lt_zero _)
      · rw [ed]
        rcases esc_cons c a with ⟨hc, ec⟩ | ⟨hc, ec⟩
        · rw [ec]; exact cb_lt (u8_pos hd) _ _
        · rw [ec]; exact cb_lt h _ _
    · subst h
      rw [cb_same, ← ih]
      rcases esc_cons c a with ⟨hc, ec⟩ | ⟨hc, ec⟩
      · rcases esc_cons c b with ⟨_, ed⟩ | ⟨hd, _⟩
        · rw [ec, ed]; show compareBytes (0 :: 255 :: _) (0 :: 255 :: _) = _; rw [cb_same, cb_same]; rfl
        · exact absurd hc hd
      · rcases esc_cons c b with ⟨hd, _⟩ | ⟨_, ed⟩
        · exact absurd hd hc
        · rw [ec, ed]; show compareBytes (c :: _) (c :: _) = _; rw [cb_same]; rfl
    · rw [cb_gt h, thenI_one]
      rcases esc_cons c a with ⟨hd, ed⟩ | ⟨hd, ed⟩
      · subst hd; have := UInt8.lt_iff_toNat_lt.1 h; exact absurd this (Nat.not_lt_zero _)
      · rw [ed]
        rcases esc_cons d b with ⟨hc, ec⟩ | ⟨hc, ec⟩
        · rw [ec]; exact cb_gt (u8_pos hd) _ _
        · rw [ec]; exact cb_gt h _ _

/-- the order of two clean values -/
def orderC (c d : Val) : Int := if c.k ≠ d.k then ordI c.k d.k else if c.k = 3 then ordS c.s d.s else ordI c.n d.n
theorem orderVV_clean (a b : Val) : orderVV a b = orderC (cleanV a) (cleanV b) := rfl
theorem keyN_val {n : Int} (h1 : -9223372036854775808 ≤ n) (h2 : n ≤ 9223372036854775807) : (keyN n : Int) = n + 9223372036854775808 := by
  unfold keyN u64N; omega
theorem ordI_shift (a b c : Int) : ordI (a + c) (b + c) = ordI a b := by
  unfold ordI
  have h1 : (a + c < b + c) = (a < b) := propext (by omega)
  have h2 : (b + c < a + c) = (b < a) := propext (by omega)
  simp only [h1, h2]
theorem key_step {c d : Val} (hc : OkK c) (hd : OkK d) (x y : List UInt8) : compareBytes (keyC c ++ x) (keyC d ++ y) = thenI (orderC c d) (compareBytes x y) := by
  rcases clean_cases hc.clean with e | e | e | e | e <;> rcases clean_cases hd.clean with f | f | f | f | f
  all_goals rw [e, f]
  case inl.inl => exact cb_same _ _ _
  case inr.inl.inr.inl => exact cb_same _ _ _
  case inr.inr.inl.inr.inr.inl => exact cb_same _ _ _
  case inr.inr.inr.inl.inr.inr.inr.inl =>
    have c1 := hc.low (by rw [e]); have c2 := hc.high (by rw [e])
    have d1 := hd.low (by rw [f]); have d2 := hd.high (by rw [f])
    show compareBytes (4 :: (beK (keyN c.n) 8 ++ x)) (4 :: (beK (keyN d.n) 8 ++ y)) = thenI (ordI c.n d.n) _
    rw [cb_same, cb_beK 8 _ _ _ _ (keyN_lt _) (keyN_lt _), keyN_val c1 c2, keyN_val d1 d2, ordI_shift]
  case inr.inr.inr.inr.inr.inr.inr.inr =>
    show compareBytes (5 :: (esc c.s.data.toList ++ [0, 1] ++ x)) (5 :: (esc d.s.data.toList ++ [0, 1] ++ y)) = thenI (compareBytes c.s.data.toList d.s.data.toList) _
    rw [cb_same, List.append_assoc, List.append_assoc]
    exact cb_esc _ _ _ _
  all_goals first
    | exact (cb_lt (by decide) _ _).trans rfl
    | exact (cb_gt (by decide) _ _).trans rfl

theorem cleanV_idem (v : Val) : cleanV (cleanV v) = cleanV v := by
  obtain ⟨k, n, s⟩ := v
  simp only [cleanV, Val.mk.injEq]
  unfold cleanK cleanN cleanS
  by_cases h1 : k = 1
  · subst h1; unfold flagN; by_cases hn : n = 0 <;> simp [hn]
  · by_cases h2 : k = 2
    · subst h2; simp
    · by_cases h3 : k = 3
      · subst h3; simp
      · simp [h1, h2, h3]
/-- a value whose number is one -/
def OkN (v : Val) : Prop := -9223372036854775808 ≤ v.n ∧ v.n ≤ 9223372036854775807
theorem OkN.key {v : Val} (h : OkN v) : OkK (cleanV v) := by
  obtain ⟨h1, h2⟩ := h
  refine ⟨cleanV_idem v, fun hk => ?_, fun hk => ?_⟩
  all_goals
    simp only [cleanV, cleanN, cleanK] at hk ⊢
    split
    · unfold flagN; split <;> omega
    · split <;> omega
theorem keys_order : ∀ (vs vs' : List Val), (∀ v ∈ vs, OkN v) → (∀ v ∈ vs', OkN v) → compareBytes (keyL vs) (keyL vs') = rowsV vs vs'
  | [], [], _, _ => rfl
  | [], b :: m, _, h' => by
    have h1 := (keyC_len (cleanV b)).1
    show compareBytes [] (keyC (cleanV b) ++ keyL m) = -1
    cases hk : keyC (cleanV b) with
    | nil => rw [hk] at h1; exact absurd h1 (by decide)
    | cons u t => rfl
  | a :: l, [], h, _ => by
    have h1 := (keyC_len (cleanV a)).1
    show compareBytes (keyC (cleanV a) ++ keyL l) [] = 1
    cases hk : keyC (cleanV a) with
    | nil => rw [hk] at h1; exact absurd h1 (by decide)
    | cons u t => rfl
  | a :: l, b :: m, h, h' => by
    have ih := keys_order l m (fun v hv => h v (List.mem_cons_of_mem _ hv)) (fun v hv => h' v (List.mem_cons_of_mem _ hv))
    show compareBytes (keyC (cleanV a) ++ keyL l) (keyC (cleanV b) ++ keyL m) = _
    rw [key_step (h a List.mem_cons_self).key (h' b List.mem_cons_self).key, ih, rowsV, orderVV_clean]
    rfl
theorem keys_sign {vs vs' : List Val} (h : ∀ v ∈ vs, OkN v) (h' : ∀ v ∈ vs', OkN v) :
    signV (Op.bytesLess (keyL vs) (keyL vs')) (!(Op.bytesLess (keyL vs) (keyL vs') || keyL vs == keyL vs')) = rowsV vs vs' := by
  rw [sign_bytes, keys_order vs vs' h h']

/-- a key reads again -/
theorem unkeyF_key : ∀ (m : Nat) (vs : List Val), (∀ v ∈ vs, OkN v) → (keyL vs).length ≤ m → unkeyF m (keyL vs) = some (vs.map cleanV)
  | m, [], _, _ => by cases m <;> rfl
  | 0, v :: r, _, hl => by
    have := (keyC_len (cleanV v)).1
    have e : (keyL (v :: r)).length = (keyC (cleanV v)).length + (keyL r).length := by simp [keyL, keyV]
    omega
  | m + 1, v :: r, h, hl => by
    have h1 := (keyC_len (cleanV v)).1
    have e : (keyL (v :: r)).length = (keyC (cleanV v)).length + (keyL r).length := by simp [keyL, keyV]
    have e2 : keyL (v :: r) = keyC (cleanV v) ++ keyL r := rfl
    have hne : keyL (v :: r) ≠ [] := fun h0 => by rw [h0] at e; simp only [List.length_nil] at e; omega
    rw [unkeyF, if_neg hne, e2, oneK_key (h v List.mem_cons_self).key, Option.bind_some]
    show (unkeyF m (keyL r)).map _ = _
    rw [unkeyF_key m r (fun v hv => h v (List.mem_cons_of_mem _ hv)) (by omega)]
    rfl
theorem unkey_key {vs : List Val} (h : ∀ v ∈ vs, OkN v) : unkey (keyL vs) = some (vs.map cleanV) := unkeyF_key _ _ h (Nat.le_refl _)

theorem OkN.pack {v : Val} (h : OkN v) (hb : ¬ bigV v) : OkV (cleanV v) := by
  have hk := h.key
  refine ⟨hk.clean, fun ⟨h1, h2⟩ => hb ?_, hk.low, hk.high⟩
  obtain ⟨k, n, s⟩ := v
  simp only [cleanV, cleanK, cleanS] at h1 h2
  by_cases h3 : k = 3
  · subst h3; exact ⟨rfl, h2⟩
  · rw [if_neg h3] at h2
    exact absurd h2 (by decide)
theorem unpack_pack {vs : List Val} (h : ∀ v ∈ vs, OkN v) (hb : ¬ badL vs) : unpackP (UInt8.ofNat vs.length :: packL vs) = some (vs.map cleanV) := by
  have hl : vs.length ≤ 64 := Nat.le_of_not_lt fun h => hb (.inl h)
  have hok : ∀ v ∈ vs.map cleanV, OkV v := fun v hv => by
    obtain ⟨u, hu, rfl⟩ := List.mem_map.1 hv
    exact (h u hu).pack fun hu2 => hb (.inr ⟨u, hu, hu2⟩)
  have e := many_pack (fun v hv r => (one_both hv r).1) vs.length (vs.map cleanV) (by simp) hok []
  have ep : packCs (vs.map cleanV) = packL vs := by
    simp only [packCs, packL, List.flatMap_map]; rfl
  rw [List.append_nil, ep] at e
  have e1 : (UInt8.ofNat vs.length).toNat = vs.length := by rw [u8_low]; omega
  rw [unpackP, e1, if_pos hl, e]
  rfl

end Go.Proofs.YtlkkpgdgnnknpaaDoor
