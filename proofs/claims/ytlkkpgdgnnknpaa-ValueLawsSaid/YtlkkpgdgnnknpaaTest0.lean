/-
  Test of both packages.
-/
import Derived.Test.YtlkkpgdgnnknpaaThree2
import Derived.Deep.DeepCutAuto
namespace Go.Proofs.Ytlkkpgdgnnknpaa
open Go.RowKit
attribute [local go_sem] OpGood goodUpon

theorem cleanK_clean (k : Int) : cleanK (cleanK k) = cleanK k := by
  unfold cleanK; split <;> (try split) <;> (try split) <;> simp_all
theorem cleanN_clean (k n : Int) : cleanN (cleanK k) (cleanN k n) = cleanN k n := by
  unfold cleanK cleanN flagN
  by_cases h1 : k = 1
  · subst h1
    by_cases h : n = 0 <;> simp [h]
  · by_cases h2 : k = 2
    · simp [h2]
    · by_cases h3 : k = 3 <;> simp [h1, h2, h3]
theorem cleanS_clean (k : Int) (s : ByteArray) : cleanS (cleanK k) (cleanS k s) = cleanS k s := by
  unfold cleanK cleanS
  by_cases h1 : k = 1
  · subst h1; simp
  · by_cases h2 : k = 2
    · subst h2; simp
    · by_cases h3 : k = 3 <;> simp [h1, h2, h3]
theorem orderV_clean (k n : Int) (s : ByteArray) (k' n' : Int) (s' : ByteArray) : orderV (cleanK k) (cleanN k n) (cleanS k s) (cleanK k') (cleanN k' n') (cleanS k' s') = orderV k n s k' n' s' := by
  simp only [orderV, cleanK_clean, cleanN_clean, cleanS_clean]
theorem lessV_clean (k n : Int) (s : ByteArray) (k' n' : Int) (s' : ByteArray) : lessV (cleanK k) (cleanN k n) (cleanS k s) (cleanK k') (cleanN k' n') (cleanS k' s') = lessV k n s k' n' s' := by
  simp only [lessV, cleanK_clean, cleanN_clean, cleanS_clean]

theorem ordI_anti (a b : Int) : ordI b a = - ordI a b := by
  unfold ordI
  split <;> split <;> (try split) <;> omega
theorem compareBytes_anti : ∀ (a b : List UInt8), Lib.compareBytes b a = - Lib.compareBytes a b
  | [], [] => rfl
  | [], _ :: _ => rfl
  | _ :: _, [] => rfl
  | x :: a, y :: b => by
    simp only [Lib.compareBytes]
    by_cases h : x < y
    · have h' : ¬ y < x := fun h2 => absurd (UInt8.lt_trans h h2) (UInt8.lt_irrefl x)
      simp [h, h']
    · by_cases h2 : y < x
      · simp [h, h2]
      · simp only [h, h2, if_false]
        exact compareBytes_anti a b
theorem orderV_anti (k n : Int) (s : ByteArray) (k' n' : Int) (s' : ByteArray) : orderV k' n' s' k n s = - orderV k n s k' n' s' := by
  unfold orderV
  by_cases h : cleanK k = cleanK k'
  · rw [if_neg (show ¬ cleanK k' ≠ cleanK k by simp [h]), if_neg (show ¬ cleanK k ≠ cleanK k' by simp [h])]
    by_cases h2 : cleanK k = 3
    · rw [if_pos (show cleanK k' = 3 by rw [← h]; exact h2), if_pos h2]
      exact compareBytes_anti _ _
    · rw [if_neg (show ¬ cleanK k' = 3 by rw [← h]; exact h2), if_neg h2]
      exact ordI_anti _ _
  · rw [if_pos (Ne.symm h), if_pos h]
    exact ordI_anti _ _
/-- what two tests of less say, in terms of the order -/
theorem less_order {k n : Int} {s : ByteArray} {k' n' : Int} {s' : ByteArray} : lessV k n s k' n' s' = decide (orderV k n s k' n' s' < 0) ∧ lessV k' n' s' k n s = decide (0 < orderV k n s k' n' s') := by
  have h1 := signV_less k n s k' n' s'
  have h2 := signV_less k' n' s' k n s
  rw [orderV_anti] at h2
  generalize lessV k n s k' n' s' = x at *
  generalize lessV k' n' s' k n s = y at *
  cases x <;> cases y <;> simp [signV] at h1 h2 ⊢ <;> omega

def bn (b : Bool) : Nat := if b then 1 else 0
theorem tK_bn (b : Bool) : tK (bn b) = 1 := by cases b <;> rfl
theorem tN_bn (b : Bool) : tN (bn b) = flagN b := by cases b <;> rfl

def testC (op c : Int) : Nat :=
  if op = 11 then bn (c == 0) else if op = 12 then bn (c != 0) else if op = 13 then bn (decide (c < 0)) else if op = 14 then bn (decide (c ≤ 0)) else if op = 15 then bn (decide (0 < c)) else if op = 16 then bn (decide (0 ≤ c)) else 2
def testT (op k n : Int) (s : ByteArray) (k' n' : Int) (s' : ByteArray) : Nat :=
  if cleanK k ≠ cleanK k' ∨ cleanK k = 0 then 2 else testC op (orderV k n s k' n' s')

theorem three_boxes {w w2 : World} {A B R : Array Value} {t : TypeId} (h : Below (((w.alloc (.cells A t)).alloc (.cells B t)).alloc (.cells R t)).heap.size (((w.alloc (.cells A t)).alloc (.cells B t)).alloc (.cells R t)) w2) :
    Has w2 w.heap.size t A ∧ Has w2 (w.heap.size + 1) t B ∧ Has w2 (w.heap.size + 1 + 1) t R ∧ Below w.heap.size w w2 := by
  refine ⟨(((Has.new w t A).alloc _).alloc _).belowS h, ?_, ?_, ?_⟩
  · have := ((Has.new (w.alloc (.cells A t)) t B).alloc (.cells R t)).belowS h
    simpa using this
  · have := (Has.new ((w.alloc (.cells A t)).alloc (.cells B t)) t R).belowS h
    simpa using this
  · exact ((((Below.refl _ _).alloc (Nat.le_refl _) _).alloc (by simp) _).alloc (by simp; omega) _).trans (h.mono (by simp; omega))
theorem three_stores {w w2 : World} {a b c a' b' c' x y z x' y' z' : Value} {R : Array Value} {t : TypeId} (h : Has w2 w.heap.size t #[a, b, c] ∧ Has w2 (w.heap.size + 1) t #[a', b', c'] ∧ Has w2 (w.heap.size + 1 + 1) t R ∧ Below w.heap.size w w2) :
    Below w.heap.size w ((((((w2.setCell ⟨w.heap.size, 0, none⟩ x).setCell ⟨w.heap.size, 1, none⟩ y).setCell ⟨w.heap.size, 2, none⟩ z).setCell ⟨w.heap.size + 1, 0, none⟩ x').setCell ⟨w.heap.size + 1, 1, none⟩ y').setCell ⟨w.heap.size + 1, 2, none⟩ z') ∧
    Has ((((((w2.setCell ⟨w.heap.size, 0, none⟩ x).setCell ⟨w.heap.size, 1, none⟩ y).setCell ⟨w.heap.size, 2, none⟩ z).setCell ⟨w.heap.size + 1, 0, none⟩ x').setCell ⟨w.heap.size + 1, 1, none⟩ y').setCell ⟨w.heap.size + 1, 2, none⟩ z') w.heap.size t #[x, y, z] ∧
    Has ((((((w2.setCell ⟨w.heap.size, 0, none⟩ x).setCell ⟨w.heap.size, 1, none⟩ y).setCell ⟨w.heap.size, 2, none⟩ z).setCell ⟨w.heap.size + 1, 0, none⟩ x').setCell ⟨w.heap.size + 1, 1, none⟩ y').setCell ⟨w.heap.size + 1, 2, none⟩ z') (w.heap.size + 1) t #[x', y', z'] ∧
    Has ((((((w2.setCell ⟨w.heap.size, 0, none⟩ x).setCell ⟨w.heap.size, 1, none⟩ y).setCell ⟨w.heap.size, 2, none⟩ z).setCell ⟨w.heap.size + 1, 0, none⟩ x').setCell ⟨w.heap.size + 1, 1, none⟩ y').setCell ⟨w.heap.size + 1, 2, none⟩ z') (w.heap.size + 1 + 1) t R := by
  obtain ⟨h1, h2, h3, h4⟩ := h
  obtain ⟨g1, g2, g3⟩ := two_stores (x := x) (y := y) (z := z) (x' := x') (y' := y') (z' := z') ⟨h1, h2, h4⟩
  exact ⟨g1, g2, g3, (h3.far3 (by omega)).far3 (by omega)⟩

set_option maxRecDepth 100000 in
set_option maxHeartbeats 3200000 in
theorem value_Test (op k n : Int) (s : ByteArray) (k' n' : Int) (s' : ByteArray) (w : World) :
    Calls Try.prog 41 #[.int .i64 op, .agg #[.int .i64 k, .int .i64 n, .string s], .agg #[.int .i64 k', .int .i64 n', .string s']] w fun e w' => e = .returned (.agg #[.int .i64 (tK (testT op k n s k' n' s')), .int .i64 (tN (testT op k n s k' n' s')), .string ⟨#[]⟩]) ∧ Below w.heap.size w w' := by
  go_enter Try.func41, Try.ntmps41
  go_upto_region 1 with fail
  go_cut [4, 5, 6] (fun s4 s5 s6 wx => s4 = .pointer (some ⟨w.heap.size, 0, none⟩) ∧ s5 = .pointer (some ⟨w.heap.size + 1, 0, none⟩) ∧ s6 = .pointer (some ⟨w.heap.size + 1 + 1, 0, none⟩) ∧ Below w.heap.size w wx ∧
    Has wx w.heap.size 29 #[.int .i64 (cleanK k), .int .i64 (cleanN k n), .string (cleanS k s)] ∧ Has wx (w.heap.size + 1) 29 #[.int .i64 (cleanK k'), .int .i64 (cleanN k' n'), .string (cleanS k' s')] ∧
    Has wx (w.heap.size + 1 + 1) 29 #[.int .i64 0, .int .i64 0, .string ⟨#[]⟩])
  case first =>
    go_region_with (go_at_call 24; refine (value_Clean _ _ _ _).mono ?_; rintro e w1 ⟨rfl, hb⟩; obtain ⟨hc, hf⟩ := bcell hb; have hz := hb.size; (try simp at hz); have hz0 : w.heap.size < w1.heap.size := (by omega); have hz1 : w.heap.size + 1 < w1.heap.size := (by omega); have hz2 : w.heap.size + 2 < w1.heap.size := (by omega))
    all_goals
      go_wp2_with fail
      go_meet
      exact ⟨rfl, rfl, rfl, three_stores (three_boxes (by first | (exact bel_step (by assumption) (by assumption) (by omega)) | (repeat (first | exact Below.refl _ _ | (refine Below.setCell ?_ (by first | omega | (simp <;> omega)) _) | refine Below.drew ?_ | (refine Below.alloc ?_ (by first | omega | (simp <;> omega)) _) | (refine bel_step ?_ (by assumption) (by first | omega | (simp <;> omega)))))))⟩
  case rest =>
    obtain ⟨rfl, rfl, rfl, hbel, hA, hB, hR⟩ := hcut
    obtain ⟨c0, c1, c2⟩ := hA.cells3
    obtain ⟨c3, c4, c5⟩ := hB.cells3
    obtain ⟨r0, r1, r2⟩ := hR.cells3
    have r3 := hR.frozen
    have z1 := hA.lt
    have z2 := hB.lt
    have z3 := hR.lt
    by_cases e : cleanK k ≠ cleanK k' ∨ cleanK k = 0
    · have ht : testT op k n s k' n' s' = 2 := by unfold testT; rw [if_pos e]
      have HT := Lib.hid ht; clear ht
      by_cases e1 : cleanK k = cleanK k'
      · have e2 : cleanK k = 0 := by rcases e with h | h; exact absurd e1 h; exact h
        have g1 : (cleanK k != cleanK k') = false := by rw [e1]; simp
        have g2 : (cleanK k == 0) = true := by rw [e2]; rfl
        clear e e1 e2
        go_wp2_with (go_at_call 64; refine (value_None _).mono ?_; rintro e w1 ⟨rfl, hb⟩; obtain ⟨hc, hf⟩ := bcell hb; have hz := hb.size; (try simp at hz); have hz0 : w.heap.size < w1.heap.size := (by omega); have hz1 : w.heap.size + 1 < w1.heap.size := (by omega); have hz2 : w.heap.size + 2 < w1.heap.size := (by omega))
        refine bodyPost_ret (v := .agg #[.int .i64 0, .int .i64 0, .string ⟨#[]⟩]) (by simp [results, Try.results41, go_sem, *]) rfl ⟨?_, ?_⟩
        · rw [HT.out]; rfl
        · (repeat (first | exact Below.refl _ _ | (refine Below.setCell ?_ (by first | omega | (simp <;> omega)) _) | refine Below.drew ?_ | (refine Below.alloc ?_ (by first | omega | (simp <;> omega)) _) | (refine bel_step ?_ (by assumption) (by first | omega | (simp <;> omega)))))
      · have g1 : (cleanK k != cleanK k') = true := bne_iff_ne.2 e1
        clear e e1
        go_wp2_with (go_at_call 64; refine (value_None _).mono ?_; rintro e w1 ⟨rfl, hb⟩; obtain ⟨hc, hf⟩ := bcell hb; have hz := hb.size; (try simp at hz); have hz0 : w.heap.size < w1.heap.size := (by omega); have hz1 : w.heap.size + 1 < w1.heap.size := (by omega); have hz2 : w.heap.size + 2 < w1.heap.size := (by omega))
        refine bodyPost_ret (v := .agg #[.int .i64 0, .int .i64 0, .string ⟨#[]⟩]) (by simp [results, Try.results41, go_sem, *]) rfl ⟨?_, ?_⟩
        · rw [HT.out]; rfl
        · (repeat (first | exact Below.refl _ _ | (refine Below.setCell ?_ (by first | omega | (simp <;> omega)) _) | refine Below.drew ?_ | (refine Below.alloc ?_ (by first | omega | (simp <;> omega)) _) | (refine bel_step ?_ (by assumption) (by first | omega | (simp <;> omega)))))
    · have ht : testT op k n s k' n' s' = testC op (orderV k n s k' n' s') := by unfold testT; rw [if_neg e]
      have HT := Lib.hid ht; clear ht
      have e1 : cleanK k = cleanK k' := Classical.byContradiction fun h => e (.inl h)
      have e2 : ¬ cleanK k = 0 := fun h => e (.inr h)
      have g1 : (cleanK k != cleanK k') = false := by rw [e1]; simp
      have g2 : (cleanK k == 0) = false := beq_eq_false_iff_ne.2 e2
      have ho := fun w => value_Order (cleanK k) (cleanN k n) (cleanS k s) (cleanK k') (cleanN k' n') (cleanS k' s') w
      rw [orderV_clean] at ho
      have HO := Lib.hid ho
      clear e e1 e2 ho
      generalize orderV k n s k' n' s' = c at *
      by_cases o11 : op = 11
      · subst o11
        go_wp2_with (first | (go_at_call 21; refine (HO.out _).mono ?_; rintro e w1 ⟨rfl, hb⟩; obtain ⟨hc, hf⟩ := bcell hb; have hz := hb.size; (try simp at hz); have hz0 : w.heap.size < w1.heap.size := (by omega); have hz1 : w.heap.size + 1 < w1.heap.size := (by omega); have hz2 : w.heap.size + 2 < w1.heap.size := (by omega)) | (go_at_call 61; refine (value_Flag _ _).mono ?_; rintro e w1 ⟨rfl, hb⟩; obtain ⟨hc, hf⟩ := bcell hb; have hz := hb.size; (try simp at hz); have hz0 : w.heap.size < w1.heap.size := (by omega); have hz1 : w.heap.size + 1 < w1.heap.size := (by omega); have hz2 : w.heap.size + 2 < w1.heap.size := (by omega)))
        refine bodyPost_ret (v := .agg #[.int .i64 1, .int .i64 (flagN (c == 0)), .string ⟨#[]⟩]) (by simp [results, Try.results41, go_sem, *]) rfl ⟨?_, ?_⟩
        · rw [HT.out, show testC 11 c = bn (c == 0) from rfl, tK_bn, tN_bn]
        · (repeat (first | exact Below.refl _ _ | (refine Below.setCell ?_ (by first | omega | (simp <;> omega)) _) | refine Below.drew ?_ | (refine Below.alloc ?_ (by first | omega | (simp <;> omega)) _) | (refine bel_step ?_ (by assumption) (by first | omega | (simp <;> omega)))))
      have p11 : (op == 11) = false := beq_eq_false_iff_ne.2 o11
      by_cases o12 : op = 12
      · subst o12
        go_wp2_with (first | (go_at_call 21; refine (HO.out _).mono ?_; rintro e w1 ⟨rfl, hb⟩; obtain ⟨hc, hf⟩ := bcell hb; have hz := hb.size; (try simp at hz); have hz0 : w.heap.size < w1.heap.size := (by omega); have hz1 : w.heap.size + 1 < w1.heap.size := (by omega); have hz2 : w.heap.size + 2 < w1.heap.size := (by omega)) | (go_at_call 61; refine (value_Flag _ _).mono ?_; rintro e w1 ⟨rfl, hb⟩; obtain ⟨hc, hf⟩ := bcell hb; have hz := hb.size; (try simp at hz); have hz0 : w.heap.size < w1.heap.size := (by omega); have hz1 : w.heap.size + 1 < w1.heap.size := (by omega); have hz2 : w.heap.size + 2 < w1.heap.size := (by omega)))
        refine bodyPost_ret (v := .agg #[.int .i64 1, .int .i64 (flagN (c != 0)), .string ⟨#[]⟩]) (by simp [results, Try.results41, go_sem, *]) rfl ⟨?_, ?_⟩
        · rw [HT.out, show testC 12 c = bn (c != 0) from rfl, tK_bn, tN_bn]
        · (repeat (first | exact Below.refl _ _ | (refine Below.setCell ?_ (by first | omega | (simp <;> omega)) _) | refine Below.drew ?_ | (refine Below.alloc ?_ (by first | omega | (simp <;> omega)) _) | (refine bel_step ?_ (by assumption) (by first | omega | (simp <;> omega)))))
      have p12 : (op == 12) = false := beq_eq_false_iff_ne.2 o12
      by_cases o13 : op = 13
      · subst o13
        go_wp2_with (first | (go_at_call 21; refine (HO.out _).mono ?_; rintro e w1 ⟨rfl, hb⟩; obtain ⟨hc, hf⟩ := bcell hb; have hz := hb.size; (try simp at hz); have hz0 : w.heap.size < w1.heap.size := (by omega); have hz1 : w.heap.size + 1 < w1.heap.size := (by omega); have hz2 : w.heap.size + 2 < w1.heap.size := (by omega)) | (go_at_call 61; refine (value_Flag _ _).mono ?_; rintro e w1 ⟨rfl, hb⟩; obtain ⟨hc, hf⟩ := bcell hb; have hz := hb.size; (try simp at hz); have hz0 : w.heap.size < w1.heap.size := (by omega); have hz1 : w.heap.size + 1 < w1.heap.size := (by omega); have hz2 : w.heap.size + 2 < w1.heap.size := (by omega)))
        refine bodyPost_ret (v := .agg #[.int .i64 1, .int .i64 (flagN (decide (c < 0))), .string ⟨#[]⟩]) (by simp [results, Try.results41, go_sem, *]) rfl ⟨?_, ?_⟩
        · rw [HT.out, show testC 13 c = bn (decide (c < 0)) from rfl, tK_bn, tN_bn]
        · (repeat (first | exact Below.refl _ _ | (refine Below.setCell ?_ (by first | omega | (simp <;> omega)) _) | refine Below.drew ?_ | (refine Below.alloc ?_ (by first | omega | (simp <;> omega)) _) | (refine bel_step ?_ (by assumption) (by first | omega | (simp <;> omega)))))
      have p13 : (op == 13) = false := beq_eq_false_iff_ne.2 o13
      by_cases o14 : op = 14
      · subst o14
        go_wp2_with (first | (go_at_call 21; refine (HO.out _).mono ?_; rintro e w1 ⟨rfl, hb⟩; obtain ⟨hc, hf⟩ := bcell hb; have hz := hb.size; (try simp at hz); have hz0 : w.heap.size < w1.heap.size := (by omega); have hz1 : w.heap.size + 1 < w1.heap.size := (by omega); have hz2 : w.heap.size + 2 < w1.heap.size := (by omega)) | (go_at_call 61; refine (value_Flag _ _).mono ?_; rintro e w1 ⟨rfl, hb⟩; obtain ⟨hc, hf⟩ := bcell hb; have hz := hb.size; (try simp at hz); have hz0 : w.heap.size < w1.heap.size := (by omega); have hz1 : w.heap.size + 1 < w1.heap.size := (by omega); have hz2 : w.heap.size + 2 < w1.heap.size := (by omega)))
        refine bodyPost_ret (v := .agg #[.int .i64 1, .int .i64 (flagN (decide (c ≤ 0))), .string ⟨#[]⟩]) (by simp [results, Try.results41, go_sem, *]) rfl ⟨?_, ?_⟩
        · rw [HT.out, show testC 14 c = bn (decide (c ≤ 0)) from rfl, tK_bn, tN_bn]
        · (repeat (first | exact Below.refl _ _ | (refine Below.setCell ?_ (by first | omega | (simp <;> omega)) _) | refine Below.drew ?_ | (refine Below.alloc ?_ (by first | omega | (simp <;> omega)) _) | (refine bel_step ?_ (by assumption) (by first | omega | (simp <;> omega)))))
      have p14 : (op == 14) = false := beq_eq_false_iff_ne.2 o14
      by_cases o15 : op = 15
      · subst o15
        go_wp2_with (first | (go_at_call 21; refine (HO.out _).mono ?_; rintro e w1 ⟨rfl, hb⟩; obtain ⟨hc, hf⟩ := bcell hb; have hz := hb.size; (try simp at hz); have hz0 : w.heap.size < w1.heap.size := (by omega); have hz1 : w.heap.size + 1 < w1.heap.size := (by omega); have hz2 : w.heap.size + 2 < w1.heap.size := (by omega)) | (go_at_call 61; refine (value_Flag _ _).mono ?_; rintro e w1 ⟨rfl, hb⟩; obtain ⟨hc, hf⟩ := bcell hb; have hz := hb.size; (try simp at hz); have hz0 : w.heap.size < w1.heap.size := (by omega); have hz1 : w.heap.size + 1 < w1.heap.size := (by omega); have hz2 : w.heap.size + 2 < w1.heap.size := (by omega)))
        refine bodyPost_ret (v := .agg #[.int .i64 1, .int .i64 (flagN (decide (0 < c))), .string ⟨#[]⟩]) (by simp [results, Try.results41, go_sem, *]) rfl ⟨?_, ?_⟩
        · rw [HT.out, show testC 15 c = bn (decide (0 < c)) from rfl, tK_bn, tN_bn]
        · (repeat (first | exact Below.refl _ _ | (refine Below.setCell ?_ (by first | omega | (simp <;> omega)) _) | refine Below.drew ?_ | (refine Below.alloc ?_ (by first | omega | (simp <;> omega)) _) | (refine bel_step ?_ (by assumption) (by first | omega | (simp <;> omega)))))
      have p15 : (op == 15) = false := beq_eq_false_iff_ne.2 o15
      by_cases o16 : op = 16
      · subst o16
        go_wp2_with (first | (go_at_call 21; refine (HO.out _).mono ?_; rintro e w1 ⟨rfl, hb⟩; obtain ⟨hc, hf⟩ := bcell hb; have hz := hb.size; (try simp at hz); have hz0 : w.heap.size < w1.heap.size := (by omega); have hz1 : w.heap.size + 1 < w1.heap.size := (by omega); have hz2 : w.heap.size + 2 < w1.heap.size := (by omega)) | (go_at_call 61; refine (value_Flag _ _).mono ?_; rintro e w1 ⟨rfl, hb⟩; obtain ⟨hc, hf⟩ := bcell hb; have hz := hb.size; (try simp at hz); have hz0 : w.heap.size < w1.heap.size := (by omega); have hz1 : w.heap.size + 1 < w1.heap.size := (by omega); have hz2 : w.heap.size + 2 < w1.heap.size := (by omega)))
        refine bodyPost_ret (v := .agg #[.int .i64 1, .int .i64 (flagN (decide (0 ≤ c))), .string ⟨#[]⟩]) (by simp [results, Try.results41, go_sem, *]) rfl ⟨?_, ?_⟩
        · rw [HT.out, show testC 16 c = bn (decide (0 ≤ c)) from rfl, tK_bn, tN_bn]
        · (repeat (first | exact Below.refl _ _ | (refine Below.setCell ?_ (by first | omega | (simp <;> omega)) _) | refine Below.drew ?_ | (refine Below.alloc ?_ (by first | omega | (simp <;> omega)) _) | (refine bel_step ?_ (by assumption) (by first | omega | (simp <;> omega)))))
      have p16 : (op == 16) = false := beq_eq_false_iff_ne.2 o16
      have htc : testC op c = 2 := by simp [testC, o11, o12, o13, o14, o15, o16]
      have HC := Lib.hid htc; clear htc o11 o12 o13 o14 o15 o16
      go_wp2_with (first | (go_at_call 21; refine (HO.out _).mono ?_; rintro e w1 ⟨rfl, hb⟩; obtain ⟨hc, hf⟩ := bcell hb; have hz := hb.size; (try simp at hz); have hz0 : w.heap.size < w1.heap.size := (by omega); have hz1 : w.heap.size + 1 < w1.heap.size := (by omega); have hz2 : w.heap.size + 2 < w1.heap.size := (by omega)) | (go_at_call 64; refine (value_None _).mono ?_; rintro e w1 ⟨rfl, hb⟩; obtain ⟨hc, hf⟩ := bcell hb; have hz := hb.size; (try simp at hz); have hz0 : w.heap.size < w1.heap.size := (by omega); have hz1 : w.heap.size + 1 < w1.heap.size := (by omega); have hz2 : w.heap.size + 2 < w1.heap.size := (by omega)))
      refine bodyPost_ret (v := .agg #[.int .i64 0, .int .i64 0, .string ⟨#[]⟩]) (by simp [results, Try.results41, go_sem, *]) rfl ⟨?_, ?_⟩
      · rw [HT.out, HC.out]; rfl
      · (repeat (first | exact Below.refl _ _ | (refine Below.setCell ?_ (by first | omega | (simp <;> omega)) _) | refine Below.drew ?_ | (refine Below.alloc ?_ (by first | omega | (simp <;> omega)) _) | (refine bel_step ?_ (by assumption) (by first | omega | (simp <;> omega)))))

end Go.Proofs.Ytlkkpgdgnnknpaa
