/-
  Rows as bytes, in plain Lean: what Pack makes, what Unpack reads; the strict reader and the loose one that packs again are one. No program in sight.
-/
import Derived.Test.YtlkkpgdgnnknpaaDoorBytes
import Derived.Test.YtlkkpgdgnnknpaaDoorSame0
namespace Go.Proofs.YtlkkpgdgnnknpaaDoor
open Go.RowKit
set_option linter.unusedVariables false
set_option linter.unusedSimpArgs false

def cleanV (v : Val) : Val := ⟨cleanK v.k, cleanN v.k v.n, cleanS v.k v.s⟩
/-- a number's bytes as they are written: modulo 2^64 -/
def u64N (n : Int) : Nat := (n % 18446744073709551616).toNat
def s64 (n : Nat) : Int := if n < 9223372036854775808 then n else n - 18446744073709551616
theorem u64N_lt (n : Int) : u64N n < 18446744073709551616 := by unfold u64N; omega
theorem u64N_s64 {n : Nat} (h : n < 18446744073709551616) : u64N (s64 n) = n := by unfold u64N s64; split <;> omega
theorem s64_u64N {n : Int} (h1 : -9223372036854775808 ≤ n) (h2 : n ≤ 9223372036854775807) : s64 (u64N n) = n := by unfold u64N s64; split <;> omega
theorem s64_range {n : Nat} (h : n < 18446744073709551616) : -9223372036854775808 ≤ s64 n ∧ s64 n ≤ 9223372036854775807 := by unfold s64; split <;> omega
theorem unK_nil : unK [] = 0 := rfl
theorem unK_beK : ∀ (k n : Nat), n < 256 ^ k → unK (beK n k) = n
  | 0, n, h => by have : n = 0 := by simpa using h
                  subst this; rfl
  | k + 1, n, h => by
    rw [beK, unK_snoc, unK_beK k (n / 256) (by rw [Nat.pow_succ] at h; omega), UInt8.toNat_ofNat']
    omega
theorem beK_unK : ∀ (k : Nat) (l : List UInt8), l.length = k → beK (unK l) k = l
  | 0, l, h => by rw [List.eq_nil_of_length_eq_zero h]; rfl
  | k + 1, l, h => by
    rcases List.eq_nil_or_concat l with rfl | ⟨m, b, rfl⟩
    · simp at h
    · have h2 : m.length = k := by simpa using h
      have hb := byte_lt b
      rw [List.concat_eq_append, unK_snoc, beK, show (256 * unK m + b.toNat) / 256 = unK m by omega, beK_unK k m h2]
      congr 2
      apply UInt8.toNat_inj.1
      rw [UInt8.toNat_ofNat']
      omega

/-- the bytes of a clean value -/
def packC (v : Val) : List UInt8 :=
  if v.k = 1 then [1, UInt8.ofNat v.n.toNat] else if v.k = 2 then 2 :: beK (u64N v.n) 8 else if v.k = 3 then 3 :: (beK v.s.size 2 ++ v.s.data.toList) else [0]
def packV (v : Val) : List UInt8 := packC (cleanV v)
def packL (vs : List Val) : List UInt8 := vs.flatMap packV
theorem packL_snoc (vs : List Val) (v : Val) : packL (vs ++ [v]) = packL vs ++ packV v := by simp [packL]
def bigV (v : Val) : Prop := v.k = 3 ∧ 1000 < v.s.size
instance : DecidablePred bigV := fun v => by unfold bigV; infer_instance
def badL (vs : List Val) : Prop := 64 < vs.length ∨ ∃ v ∈ vs, bigV v
instance : DecidablePred badL := fun v => by unfold badL; infer_instance
def packS (vs : List Val) : ByteArray := if badL vs then ⟨#[]⟩ else bsOf (UInt8.ofNat vs.length :: packL vs)
def packE (vs : List Val) : Int := if badL vs then 8 else 0

/-- one value, as strictly as Unpack reads it -/
def oneP : List UInt8 → Option (Val × List UInt8)
  | [] => none
  | k :: r =>
    if k.toNat = 0 then some (⟨0, 0, ⟨#[]⟩⟩, r)
    else if k.toNat = 1 then (match r with | [] => none | b :: r' => if b.toNat ≤ 1 then some (⟨1, b.toNat, ⟨#[]⟩⟩, r') else none)
    else if k.toNat = 2 then (if 8 ≤ r.length then some (⟨2, s64 (unK (r.take 8)), ⟨#[]⟩⟩, r.drop 8) else none)
    else if k.toNat = 3 then (match r with | h :: l :: r' => if 256 * h.toNat + l.toNat ≤ 1000 ∧ 256 * h.toNat + l.toNat ≤ r'.length then some (⟨3, 0, bsOf (r'.take (256 * h.toNat + l.toNat))⟩, r'.drop (256 * h.toNat + l.toNat)) else none | _ => none)
    else none
/-- one value, as the reference reads it -/
def oneR : List UInt8 → Option (Val × List UInt8)
  | [] => none
  | k :: r =>
    if k.toNat = 0 then some (⟨0, 0, ⟨#[]⟩⟩, r)
    else if k.toNat = 1 then (match r with | [] => none | b :: r' => some (⟨1, flagN (b == 1), ⟨#[]⟩⟩, r'))
    else if k.toNat = 2 then (if 8 ≤ r.length then some (⟨2, s64 (unK (r.take 8)), ⟨#[]⟩⟩, r.drop 8) else none)
    else if k.toNat = 3 then (match r with | h :: l :: r' => if 256 * h.toNat + l.toNat ≤ r'.length then some (⟨3, 0, bsOf (r'.take (256 * h.toNat + l.toNat))⟩, r'.drop (256 * h.toNat + l.toNat)) else none | _ => none)
    else none
def many (one : List UInt8 → Option (Val × List UInt8)) : Nat → List UInt8 → Option (List Val × List UInt8)
  | 0, r => some ([], r)
  | n + 1, r => (many one n r).bind fun x => (one x.2).map fun y => (x.1 ++ [y.1], y.2)
def unpackP (s : List UInt8) : Option (List Val) :=
  match s with
  | [] => none
  | b :: r => if b.toNat ≤ 64 then (many oneP b.toNat r).bind (fun x => if x.2 = [] then some x.1 else none) else none
def unpackR (s : List UInt8) : Option (List Val) :=
  match s with
  | [] => none
  | b :: r => (many oneR b.toNat r).bind (fun x => if packE x.1 = 0 ∧ packS x.1 = bsOf s then some x.1 else none)

/-- a value that can be written and read again -/
structure OkV (v : Val) : Prop where
  clean : cleanV v = v
  small : ¬ bigV v
  low : v.k = 2 → -9223372036854775808 ≤ v.n
  high : v.k = 2 → v.n ≤ 9223372036854775807
theorem byte_eq {k : UInt8} {n : Nat} (h : k.toNat = n) (hn : n < 256) : k = UInt8.ofNat n := by
  apply UInt8.toNat_inj.1; rw [h, UInt8.toNat_ofNat']; omega
theorem bs2 {h l : UInt8} : beK (256 * h.toNat + l.toNat) 2 = [h, l] := by
  have := beK_unK 2 [h, l] rfl
  have e : unK [h, l] = 256 * h.toNat + l.toNat := by simp [unK]
  rw [e] at this; exact this
theorem clean_cases {v : Val} (h : cleanV v = v) : (v = ⟨0, 0, ⟨#[]⟩⟩) ∨ (v = ⟨1, 0, ⟨#[]⟩⟩) ∨ (v = ⟨1, 1, ⟨#[]⟩⟩) ∨ (v = ⟨2, v.n, ⟨#[]⟩⟩) ∨ (v = ⟨3, 0, v.s⟩) := by
  obtain ⟨k, n, s⟩ := v
  simp only [cleanV, Val.mk.injEq] at h
  obtain ⟨h1, h2, h3⟩ := h
  unfold cleanK at h1
  split at h1
  · rename_i hk; subst hk
    simp only [cleanN, cleanS, if_true, flagN] at h2 h3
    rw [if_neg (by omega)] at h3
    subst h3
    split at h2 <;> subst h2 <;> simp
  · split at h1
    · rename_i _ hk; subst hk
      simp only [cleanS] at h3
      rw [if_neg (by omega)] at h3
      subst h3; simp
    · split at h1
      · rename_i _ _ hk; subst hk
        simp only [cleanN] at h2
        rw [if_neg (by omega), if_neg (by omega)] at h2
        subst h2; simp
      · rename_i a b c
        subst h1
        simp only [cleanN, cleanS] at h2 h3
        rw [if_neg (by omega), if_neg (by omega)] at h2
        rw [if_neg (by omega)] at h3
        subst h2 h3; simp
theorem oneP_ok {r r' : List UInt8} {v : Val} (h : oneP r = some (v, r')) : OkV v ∧ r = packC v ++ r' := by
  cases r with
  | nil => simp [oneP] at h
  | cons k r =>
    simp only [oneP] at h
    split at h
    · rename_i hk
      cases h
      exact ⟨⟨rfl, by simp [bigV], by simp, by simp⟩, by rw [byte_eq hk (by omega)]; rfl⟩
    · split at h
      · rename_i _ hk
        cases r with
        | nil => cases h
        | cons b r =>
          simp only at h
          split at h
          · rename_i hb
            cases h
            have hb2 : b.toNat = 0 ∨ b.toNat = 1 := by omega
            have e : packC ⟨1, (b.toNat : Int), ⟨#[]⟩⟩ = [1, b] := by simp [packC]
            rw [e, byte_eq hk (by omega)]
            refine ⟨⟨?_, by simp [bigV], by simp, by simp⟩, rfl⟩
            rcases hb2 with hb2 | hb2 <;> rw [hb2] <;> rfl
          · cases h
      · split at h
        · rename_i _ _ hk
          split at h
          · rename_i hl
            cases h
            have hlt : unK (r.take 8) < 18446744073709551616 := by
              have := unK_lt 8 (r.take 8) (by rw [List.length_take]; omega)
              simpa using this
            have hr := s64_range hlt
            refine ⟨⟨rfl, by simp [bigV], fun _ => hr.1, fun _ => hr.2⟩, ?_⟩
            have e : packC ⟨2, s64 (unK (r.take 8)), ⟨#[]⟩⟩ = 2 :: r.take 8 := by
              simp only [packC]
              rw [if_neg (by omega), if_pos trivial, u64N_s64 hlt, beK_unK 8 _ (by rw [List.length_take]; omega)]
            rw [e, byte_eq hk (by omega)]
            simp only [List.cons_append, List.take_append_drop]
            rfl
          · cases h
        · split at h
          · rename_i _ _ _ hk
            match r with
            | [] => cases h
            | [_] => cases h
            | a :: b :: r =>
              simp only at h
              split at h
              · rename_i hc
                cases h
                refine ⟨⟨rfl, ?_, by simp, by simp⟩, ?_⟩
                · simp only [bigV, bsOf_size, List.length_take]; omega
                · have e : packC ⟨3, 0, bsOf (r.take (256 * a.toNat + b.toNat))⟩ = 3 :: ([a, b] ++ r.take (256 * a.toNat + b.toNat)) := by
                    simp only [packC]
                    rw [if_neg (by omega), if_neg (by omega), if_pos trivial, bsOf_size, bsOf_data, List.length_take, Nat.min_eq_left hc.2, bs2]
                  rw [e, byte_eq hk (by omega)]
                  simp only [List.cons_append, List.nil_append, List.append_assoc, List.take_append_drop]
                  rfl
              · cases h
          · cases h
theorem take_drop_left (a r : List UInt8) {n : Nat} (h : a.length = n) : (a ++ r).take n = a ∧ (a ++ r).drop n = r := by
  subst h; exact ⟨List.take_left, List.drop_left⟩
theorem one_both {v : Val} (h : OkV v) (r : List UInt8) : oneP (packC v ++ r) = some (v, r) ∧ oneR (packC v ++ r) = some (v, r) := by
  have hb := h.small
  have h1 := h.low
  have h2 := h.high
  rcases clean_cases h.clean with e | e | e | e | e
  · rw [e]; exact ⟨rfl, rfl⟩
  · rw [e]; exact ⟨rfl, rfl⟩
  · rw [e]; exact ⟨rfl, rfl⟩
  · have hk : v.k = 2 := by rw [e]
    have e2 : packC v = 2 :: beK (u64N v.n) 8 := by
      rw [e]; simp only [packC]; rw [if_neg (by omega), if_pos trivial]
    obtain ⟨t1, t2⟩ := take_drop_left (beK (u64N v.n) 8) r (beK_len 8 _)
    have e3 : unK (beK (u64N v.n) 8) = u64N v.n := unK_beK 8 _ (by have := u64N_lt v.n; simpa using this)
    have e4 := s64_u64N (h1 hk) (h2 hk)
    have hl : 8 ≤ (beK (u64N v.n) 8 ++ r).length := by rw [List.length_append, beK_len]; omega
    rw [e2]
    constructor
    · simp only [List.cons_append, oneP]
      rw [if_neg (by decide), if_neg (by decide), if_pos (by decide), if_pos hl, t1, t2, e3, e4, ← e]
    · simp only [List.cons_append, oneR]
      rw [if_neg (by decide), if_neg (by decide), if_pos (by decide), if_pos hl, t1, t2, e3, e4, ← e]
  · have hk : v.k = 3 := by rw [e]
    have hs : v.s.size ≤ 1000 := by
      unfold bigV at hb
      omega
    have e2 : packC v = 3 :: UInt8.ofNat (v.s.size / 256) :: UInt8.ofNat v.s.size :: v.s.data.toList := by
      rw [e]; simp only [packC]; rw [if_neg (by omega), if_neg (by omega), if_pos trivial, beK_two]; rfl
    obtain ⟨t1, t2⟩ := take_drop_left v.s.data.toList r (n := v.s.size) (by simp)
    have e3 : 256 * (UInt8.ofNat (v.s.size / 256)).toNat + (UInt8.ofNat v.s.size).toNat = v.s.size := by
      rw [UInt8.toNat_ofNat', UInt8.toNat_ofNat']; omega
    have hl : v.s.size ≤ (v.s.data.toList ++ r).length := by rw [List.length_append]; simp
    rw [e2]
    constructor
    · simp only [List.cons_append, oneP]
      rw [if_neg (by decide), if_neg (by decide), if_neg (by decide), if_pos (by decide), e3, if_pos ⟨hs, hl⟩, t1, t2, bsOf_of, ← e]
    · simp only [List.cons_append, oneR]
      rw [if_neg (by decide), if_neg (by decide), if_neg (by decide), if_pos (by decide), e3, if_pos hl, t1, t2, bsOf_of, ← e]
theorem oneR_clean {r r' : List UInt8} {v : Val} (h : oneR r = some (v, r')) : cleanV v = v ∧ (v.k = 2 → -9223372036854775808 ≤ v.n ∧ v.n ≤ 9223372036854775807) := by
  cases r with
  | nil => simp [oneR] at h
  | cons k r =>
    simp only [oneR] at h
    split at h
    · cases h; exact ⟨rfl, by simp⟩
    · split at h
      · cases r with
        | nil => cases h
        | cons b r =>
          cases h
          refine ⟨?_, by simp⟩
          by_cases hb : (b == 1) = true
          · rw [hb]; rfl
          · rw [Bool.not_eq_true] at hb; rw [hb]; rfl
      · split at h
        · split at h
          · rename_i hl
            cases h
            have hlt : unK (r.take 8) < 18446744073709551616 := by
              have := unK_lt 8 (r.take 8) (by rw [List.length_take]; omega)
              simpa using this
            exact ⟨rfl, fun _ => s64_range hlt⟩
          · cases h
        · split at h
          · match r with
            | [] => cases h
            | [_] => cases h
            | a :: b :: r =>
              simp only at h
              split at h
              · cases h; exact ⟨rfl, by simp⟩
              · cases h
          · cases h

def packCs (vs : List Val) : List UInt8 := vs.flatMap packC
theorem many_ok : ∀ {n : Nat} {r r' : List UInt8} {vs : List Val}, many oneP n r = some (vs, r') → (∀ v ∈ vs, OkV v) ∧ r = packCs vs ++ r' ∧ vs.length = n
  | 0, r, r', vs, h => by cases h; exact ⟨by simp, rfl, rfl⟩
  | n + 1, r, r', vs, h => by
    simp only [many] at h
    obtain ⟨⟨us, r1⟩, h1, h2⟩ := Option.bind_eq_some_iff.1 h
    obtain ⟨⟨v, r2⟩, h3, h4⟩ := Option.map_eq_some_iff.1 h2
    cases h4
    obtain ⟨a1, a2, a3⟩ := many_ok h1
    obtain ⟨b1, b2⟩ := oneP_ok h3
    simp only at b2
    refine ⟨fun u hu => ?_, ?_, by simp [a3]⟩
    · rcases List.mem_append.1 hu with hu | hu
      · exact a1 u hu
      · rw [List.mem_singleton.1 hu]; exact b1
    · rw [a2, b2]; simp [packCs]
theorem many_pack {one : List UInt8 → Option (Val × List UInt8)} (h1 : ∀ v, OkV v → ∀ r, one (packC v ++ r) = some (v, r)) : ∀ (n : Nat) (vs : List Val), vs.length = n → (∀ v ∈ vs, OkV v) → ∀ r, many one n (packCs vs ++ r) = some (vs, r)
  | 0, vs, hl, _, r => by rw [List.eq_nil_of_length_eq_zero hl]; rfl
  | n + 1, vs, hl, hv, r => by
    rcases List.eq_nil_or_concat vs with rfl | ⟨us, v, rfl⟩
    · simp at hl
    · rw [List.concat_eq_append] at *
      have := many_pack h1 n us (by simpa using hl) (fun u hu => hv u (List.mem_append_left _ hu)) (packC v ++ r)
      have e : packCs (us ++ [v]) ++ r = packCs us ++ (packC v ++ r) := by simp [packCs]
      rw [e, many, this]
      simp only [Option.bind_some]
      rw [h1 v (hv v (by simp)) r]
      rfl
theorem many_clean : ∀ {n : Nat} {r r' : List UInt8} {vs : List Val}, many oneR n r = some (vs, r') → vs.length = n ∧ ∀ v ∈ vs, cleanV v = v ∧ (v.k = 2 → -9223372036854775808 ≤ v.n ∧ v.n ≤ 9223372036854775807)
  | 0, r, r', vs, h => by cases h; exact ⟨rfl, by simp⟩
  | n + 1, r, r', vs, h => by
    simp only [many] at h
    obtain ⟨⟨us, r1⟩, h1, h2⟩ := Option.bind_eq_some_iff.1 h
    obtain ⟨⟨v, r2⟩, h3, h4⟩ := Option.map_eq_some_iff.1 h2
    cases h4
    obtain ⟨a0, a1⟩ := many_clean h1
    refine ⟨by simp [a0], fun u hu => ?_⟩
    rcases List.mem_append.1 hu with hu | hu
    · exact a1 u hu
    · rw [List.mem_singleton.1 hu]; exact oneR_clean h3
theorem packCs_clean {vs : List Val} (h : ∀ v ∈ vs, cleanV v = v) : packL vs = packCs vs := by
  unfold packL packCs
  induction vs with
  | nil => rfl
  | cons v vs ih =>
    rw [List.flatMap_cons, List.flatMap_cons, ih (fun u hu => h u (List.mem_cons_of_mem _ hu))]
    congr 1
    unfold packV
    rw [h v (List.mem_cons_self ..)]
theorem bsOf_inj {a b : List UInt8} (h : bsOf a = bsOf b) : a = b := by
  have := congrArg (fun s : ByteArray => s.data.toList) h
  simpa [bsOf_data] using this
theorem packE_zero {vs : List Val} : packE vs = 0 ↔ ¬ badL vs := by unfold packE; split <;> simp_all
theorem packS_ok {vs : List Val} (h : ¬ badL vs) : packS vs = bsOf (UInt8.ofNat vs.length :: packL vs) := if_neg h
/-- the strict reader and the loose one that packs again are one -/
theorem unpack_same (s : List UInt8) : unpackP s = unpackR s := by
  cases s with
  | nil => rfl
  | cons b r =>
    have hP : ∀ vs, unpackP (b :: r) = some vs → unpackR (b :: r) = some vs := fun vs h => by
      simp only [unpackP] at h
      split at h
      · rename_i hb
        obtain ⟨⟨us, r1⟩, h1, h2⟩ := Option.bind_eq_some_iff.1 h
        simp only at h2
        split at h2
        · rename_i hr
          cases h2
          subst hr
          obtain ⟨a1, a2, a3⟩ := many_ok h1
          rw [List.append_nil] at a2
          have hbad : ¬ badL vs := by
            rintro (hl | ⟨v, hv, hb2⟩)
            · omega
            · exact (a1 v hv).small hb2
          have hm := many_pack (one := oneR) (fun v hv r => (one_both hv r).2) b.toNat vs a3 a1 []
          rw [List.append_nil, ← a2] at hm
          have hp : packS vs = bsOf (b :: r) := by
            rw [packS_ok hbad, packCs_clean (fun v hv => (a1 v hv).clean), ← a2, a3]
            congr 2
            apply UInt8.toNat_inj.1
            rw [UInt8.toNat_ofNat']
            have := byte_lt b; omega
          simp only [unpackR, hm, Option.bind_some]
          rw [if_pos ⟨packE_zero.2 hbad, hp⟩]
        · cases h2
      · cases h
    have hR : ∀ vs, unpackR (b :: r) = some vs → unpackP (b :: r) = some vs := fun vs h => by
      simp only [unpackR] at h
      obtain ⟨⟨us, r1⟩, h1, h2⟩ := Option.bind_eq_some_iff.1 h
      simp only at h2
      split at h2
      · rename_i hc
        cases h2
        have hbad := packE_zero.1 hc.1
        obtain ⟨a0, a1⟩ := many_clean h1
        have hok : ∀ v ∈ vs, OkV v := fun v hv => ⟨(a1 v hv).1, fun hb => hbad (.inr ⟨v, hv, hb⟩), fun hk => ((a1 v hv).2 hk).1, fun hk => ((a1 v hv).2 hk).2⟩
        have he := hc.2
        rw [packS_ok hbad] at he
        have he2 := bsOf_inj he
        rw [packCs_clean (fun v hv => (a1 v hv).1)] at he2
        injection he2 with e1 e2
        have hm := many_pack (one := oneP) (fun v hv r => (one_both hv r).1) b.toNat vs a0 hok []
        rw [List.append_nil, e2] at hm
        have hlen : b.toNat ≤ 64 := by
          have : ¬ 64 < vs.length := fun h => hbad (.inl h)
          omega
        simp only [unpackP]
        rw [if_pos hlen, hm]
        rfl
      · cases h2
    cases h : unpackP (b :: r) with
    | some vs => exact (hP vs h).symm
    | none =>
      cases h2 : unpackR (b :: r) with
      | none => rfl
      | some vs => rw [hR vs h2] at h; cases h

end Go.Proofs.YtlkkpgdgnnknpaaDoor
