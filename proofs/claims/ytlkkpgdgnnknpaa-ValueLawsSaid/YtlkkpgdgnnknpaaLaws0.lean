/-
  Plain laws: one order; De Morgan; what is added can be taken away; quotient and rest.
-/
import Derived.Test.YtlkkpgdgnnknpaaTest0
import Derived.Test.YtlkkpgdgnnknpaaReck1
namespace Go.Proofs.Ytlkkpgdgnnknpaa
open Go.RowKit

theorem orderV_self (k n : Int) (s : ByteArray) : orderV k n s k n s = 0 := by
  have := orderV_anti k n s k n s
  omega
theorem ordI_val (a b : Int) : (ordI a b = -1 ∧ a < b) ∨ (ordI a b = 0 ∧ a = b) ∨ (ordI a b = 1 ∧ b < a) := by
  unfold ordI
  by_cases h : a < b
  · exact .inl ⟨by simp [h], h⟩
  · by_cases h2 : b < a
    · exact .inr (.inr ⟨by simp [h, h2], h2⟩)
    · exact .inr (.inl ⟨by simp [h, h2], by omega⟩)
theorem compareBytes_trans : ∀ (a b c : List UInt8), Lib.compareBytes a b ≤ 0 → Lib.compareBytes b c ≤ 0 → Lib.compareBytes a c ≤ 0 ∧ (Lib.compareBytes a b = 0 → Lib.compareBytes b c = 0 → Lib.compareBytes a c = 0)
  | [], [], [], _, _ => by simp [Lib.compareBytes]
  | [], [], _ :: _, _, _ => by simp [Lib.compareBytes]
  | [], _ :: _, [], _, _ => by simp [Lib.compareBytes]
  | [], _ :: _, _ :: _, _, _ => by simp [Lib.compareBytes]
  | _ :: _, [], _, h, _ => by simp [Lib.compareBytes] at h
  | _ :: _, _ :: _, [], _, h => by simp [Lib.compareBytes] at h
  | x :: a, y :: b, z :: c, h1, h2 => by
    have ih := compareBytes_trans a b c
    simp only [Lib.compareBytes, UInt8.lt_iff_toNat_lt] at *
    by_cases xy : x.toNat < y.toNat
    · by_cases yz : y.toNat < z.toNat
      · rw [if_pos (show x.toNat < z.toNat by omega), if_pos xy]
        simp
      · by_cases zy : z.toNat < y.toNat
        · rw [if_neg yz, if_pos zy] at h2; omega
        · rw [if_pos (show x.toNat < z.toNat by omega), if_pos xy]
          simp
    · by_cases yx : y.toNat < x.toNat
      · rw [if_neg xy, if_pos yx] at h1; omega
      · rw [if_neg xy, if_neg yx] at h1
        by_cases yz : y.toNat < z.toNat
        · rw [if_pos (show x.toNat < z.toNat by omega), if_pos yz]
          simp
        · by_cases zy : z.toNat < y.toNat
          · rw [if_neg yz, if_pos zy] at h2; omega
          · rw [if_neg yz, if_neg zy] at h2
            rw [if_neg (show ¬ x.toNat < z.toNat by omega), if_neg (show ¬ z.toNat < x.toNat by omega), if_neg xy, if_neg yx, if_neg yz, if_neg zy]
            exact ih h1 h2
theorem compareBytes_val : ∀ (a b : List UInt8), Lib.compareBytes a b = -1 ∨ Lib.compareBytes a b = 0 ∨ Lib.compareBytes a b = 1
  | [], [] => by simp [Lib.compareBytes]
  | [], _ :: _ => by simp [Lib.compareBytes]
  | _ :: _, [] => by simp [Lib.compareBytes]
  | x :: a, y :: b => by
    simp only [Lib.compareBytes]
    split
    · simp
    · split
      · simp
      · exact compareBytes_val a b
theorem orderV_val (k n : Int) (s : ByteArray) (k' n' : Int) (s' : ByteArray) : -1 ≤ orderV k n s k' n' s' ∧ orderV k n s k' n' s' ≤ 1 := by
  unfold orderV
  split
  · have := ordI_val (cleanK k) (cleanK k'); omega
  · split
    · have := compareBytes_val (cleanS k s).data.toList (cleanS k' s').data.toList
      unfold ordS; omega
    · have := ordI_val (cleanN k n) (cleanN k' n'); omega
def ord3 (ka kb : Int) (sa sb : ByteArray) (a b : Int) : Int := if ka ≠ kb then ordI ka kb else if ka = 3 then ordS sa sb else ordI a b
theorem ord3_ne {ka kb : Int} (h : ka ≠ kb) (sa sb : ByteArray) (a b : Int) : ord3 ka kb sa sb a b = ordI ka kb := if_pos h
theorem ord3_txt (sa sb : ByteArray) (a b : Int) : ord3 3 3 sa sb a b = ordS sa sb := rfl
theorem ord3_num {k : Int} (h : k ≠ 3) (sa sb : ByteArray) (a b : Int) : ord3 k k sa sb a b = ordI a b := by
  unfold ord3
  rw [if_neg (by simp), if_neg h]
theorem ord3_trans {ka kb kc : Int} {sa sb sc : ByteArray} {a b c : Int} (h1 : ord3 ka kb sa sb a b ≤ 0) (h2 : ord3 kb kc sb sc b c ≤ 0) :
    ord3 ka kc sa sc a c ≤ 0 ∧ (ord3 ka kb sa sb a b = 0 → ord3 kb kc sb sc b c = 0 → ord3 ka kc sa sc a c = 0) := by
  have o1 := ordI_val ka kb
  have o2 := ordI_val kb kc
  have o3 := ordI_val ka kc
  by_cases e1 : ka = kb
  · subst e1
    by_cases e2 : ka = kc
    · subst e2
      by_cases e3 : ka = 3
      · subst e3
        rw [ord3_txt] at *
        rw [ord3_txt] at *
        exact compareBytes_trans _ _ _ h1 h2
      · rw [ord3_num e3] at h1 h2 ⊢
        rw [ord3_num e3, ord3_num e3]
        have := ordI_val a b
        have := ordI_val b c
        have := ordI_val a c
        omega
    · rw [ord3_ne e2] at h2 ⊢
      rw [ord3_ne e2]
      omega
  · rw [ord3_ne e1] at h1 ⊢
    by_cases e2 : kb = kc
    · subst e2
      rw [ord3_ne e1]
      omega
    · rw [ord3_ne e2] at h2 ⊢
      have hac : ka ≠ kc := by omega
      rw [ord3_ne hac]
      omega
theorem orderV_trans {k n : Int} {s : ByteArray} {k' n' : Int} {s' : ByteArray} {k2 n2 : Int} {s2 : ByteArray} (h1 : orderV k n s k' n' s' ≤ 0) (h2 : orderV k' n' s' k2 n2 s2 ≤ 0) :
    orderV k n s k2 n2 s2 ≤ 0 ∧ (orderV k n s k' n' s' = 0 → orderV k' n' s' k2 n2 s2 = 0 → orderV k n s k2 n2 s2 = 0) := ord3_trans h1 h2

theorem deMorgan {t u : Nat} (ht : t < 3) (hu : u < 3) : either3 (not3 t) (not3 u) = not3 (both3 t u) := by
  match t, ht, u, hu with
  | 0, _, 0, _ => rfl
  | 0, _, 1, _ => rfl
  | 0, _, 2, _ => rfl
  | 1, _, 0, _ => rfl
  | 1, _, 1, _ => rfl
  | 1, _, 2, _ => rfl
  | 2, _, 0, _ => rfl
  | 2, _, 1, _ => rfl
  | 2, _, 2, _ => rfl
theorem both_comm (t u : Nat) : both3 u t = both3 t u := by
  unfold both3
  simp only [or_comm, and_comm]
theorem either_assoc {t u v : Nat} (ht : t < 3) (hu : u < 3) (hv : v < 3) : either3 (either3 t u) v = either3 t (either3 u v) := by
  match t, ht with
  | 0, _ => match u, hu with
    | 0, _ => match v, hv with
      | 0, _ => rfl
      | 1, _ => rfl
      | 2, _ => rfl
    | 1, _ => match v, hv with
      | 0, _ => rfl
      | 1, _ => rfl
      | 2, _ => rfl
    | 2, _ => match v, hv with
      | 0, _ => rfl
      | 1, _ => rfl
      | 2, _ => rfl
  | 1, _ => match u, hu with
    | 0, _ => match v, hv with
      | 0, _ => rfl
      | 1, _ => rfl
      | 2, _ => rfl
    | 1, _ => match v, hv with
      | 0, _ => rfl
      | 1, _ => rfl
      | 2, _ => rfl
    | 2, _ => match v, hv with
      | 0, _ => rfl
      | 1, _ => rfl
      | 2, _ => rfl
  | 2, _ => match u, hu with
    | 0, _ => match v, hv with
      | 0, _ => rfl
      | 1, _ => rfl
      | 2, _ => rfl
    | 1, _ => match v, hv with
      | 0, _ => rfl
      | 1, _ => rfl
      | 2, _ => rfl
    | 2, _ => match v, hv with
      | 0, _ => rfl
      | 1, _ => rfl
      | 2, _ => rfl

/-- a sum that is a number: both are, and it can be taken back -/
theorem sum_cases (k n k' n' : Int) : reckV 5 k n k' n' = none ∨ (k = 2 ∧ k' = 2 ∧ inI (n + n') ∧ reckV 5 k n k' n' = some (n + n')) := by
  by_cases h : k = 2 ∧ k' = 2
  · by_cases hr : inI (n + n')
    · exact .inr ⟨h.1, h.2, hr, by unfold reckV; rw [if_pos h]; exact fit_yes hr⟩
    · exact .inl (by unfold reckV; rw [if_pos h]; exact fit_no hr)
  · exact .inl (by unfold reckV; rw [if_neg h])
theorem sum_back {n n' : Int} (hn : inI n) : reckV 6 2 (n + n') 2 n' = some n := by
  have : n + n' - n' = n := by omega
  show fitO (n + n' - n') = _
  rw [this]; exact fit_yes hn
theorem sum_comm {n n' : Int} (h : inI (n + n')) : reckV 5 2 n' 2 n = some (n + n') := by
  show fitO (n' + n) = _
  rw [Int.add_comm]; exact fit_yes h
theorem quot_cases (k n k' n' : Int) : (reckV 8 k n k' n' = none) ∨ (k = 2 ∧ k' = 2 ∧ n' ≠ 0 ∧ ¬ (n = -9223372036854775808 ∧ n' = -1) ∧ reckV 8 k n k' n' = some (n.tdiv n') ∧ reckV 9 k n k' n' = some (n.tmod n')) := by
  by_cases h : k = 2 ∧ k' = 2
  · by_cases hr : n' = 0 ∨ (n = -9223372036854775808 ∧ n' = -1)
    · exact .inl (by unfold reckV; rw [if_pos h]; show divO 8 n n' = none; unfold divO; rw [if_pos hr])
    · refine .inr ⟨h.1, h.2, fun e => hr (.inl e), fun e => hr (.inr e), ?_, ?_⟩
      · unfold reckV; rw [if_pos h]; show divO 8 n n' = _; unfold divO; rw [if_neg hr]; rfl
      · unfold reckV; rw [if_pos h]; show divO 9 n n' = _; unfold divO; rw [if_neg hr]; rfl
  · exact .inl (by unfold reckV; rw [if_neg h])
theorem tmod_between (n n' : Int) : (0 ≤ n → 0 ≤ n.tmod n' ∧ n.tmod n' ≤ n) ∧ (n ≤ 0 → n ≤ n.tmod n' ∧ n.tmod n' ≤ 0) := by
  have e : (n.tmod n').natAbs = n.natAbs % n'.natAbs := Int.natAbs_tmod n n'
  have h1 : n.natAbs % n'.natAbs ≤ n.natAbs := Nat.mod_le _ _
  have p1 : 0 ≤ n → 0 ≤ n.tmod n' := fun h => Int.tmod_nonneg n' h
  have p2 : n ≤ 0 → n.tmod n' ≤ 0 := fun h => by
    have := Int.tmod_nonneg n' (show 0 ≤ -n by omega)
    rw [Int.neg_tmod] at this
    omega
  generalize n.natAbs % n'.natAbs = q at *
  generalize n.tmod n' = r at *
  omega
theorem quot_mul {n n' : Int} (hn : inI n) : reckV 7 2 (n.tdiv n') 2 n' = some (n.tdiv n' * n') := by
  have e := Int.tmod_add_tdiv_mul n n'
  have b := tmod_between n n'
  refine fit_yes ?_
  unfold inI at *
  generalize n.tdiv n' * n' = x at *
  generalize n.tmod n' = r at *
  omega
theorem quot_add {n n' : Int} (hn : inI n) : reckV 5 2 (n.tdiv n' * n') 2 (n.tmod n') = some n := by
  have e := Int.tmod_add_tdiv_mul n n'
  have e2 : n.tdiv n' * n' + n.tmod n' = n := by omega
  show fitO (n.tdiv n' * n' + n.tmod n') = _
  rw [e2]; exact fit_yes hn

end Go.Proofs.Ytlkkpgdgnnknpaa
