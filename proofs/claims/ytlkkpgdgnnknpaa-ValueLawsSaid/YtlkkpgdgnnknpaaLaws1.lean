/-
  The walk of relstorekeep.ValueLaws, first half: the order, the truths.
-/
import Derived.Test.YtlkkpgdgnnknpaaLaws0
import Derived.Test.YtlkkpgdgnnknpaaThree2
import Derived.Deep.DeepCutAuto
import Derived.BigQuiet
namespace Go.Proofs.Ytlkkpgdgnnknpaa
open Go.RowKit
open Go.BigFrame
attribute [local go_sem] OpGood goodUpon fillA Act.put

/-- three boxed values -/
def Three (w W : World) (a b c : Array Value) : Prop := Below w.heap.size w W ∧ Has W w.heap.size 29 a ∧ Has W (w.heap.size + 1) 29 b ∧ Has W (w.heap.size + 1 + 1) 29 c
theorem Three.start (w : World) (a b c : Array Value) : Three w (((w.alloc (.cells a 29)).alloc (.cells b 29)).alloc (.cells c 29)) a b c := by
  refine ⟨?_, ((Has.new w _ a).alloc _).alloc _, ?_, ?_⟩
  · exact (((Below.refl _ _).alloc (Nat.le_refl _) _).alloc (by simp) _).alloc (by simp; omega) _
  · have := (Has.new (w.alloc (.cells a 29)) 29 b).alloc (.cells c 29)
    simpa using this
  · have := Has.new ((w.alloc (.cells a 29)).alloc (.cells b 29)) 29 c
    simpa using this
theorem Three.step {w W W' : World} {a b c : Array Value} (h : Three w W a b c) (hb : Below W.heap.size W W') : Three w W' a b c :=
  ⟨bel_step h.1 hb h.1.size, h.2.1.belowS hb, h.2.2.1.belowS hb, h.2.2.2.belowS hb⟩
theorem Three.cells {w W : World} {k n : Int} {s : ByteArray} {k' n' : Int} {s' : ByteArray} {k2 n2 : Int} {s2 : ByteArray} (h : Three w W #[.int .i64 k, .int .i64 n, .string s] #[.int .i64 k', .int .i64 n', .string s'] #[.int .i64 k2, .int .i64 n2, .string s2]) :
    (W.cell? ⟨w.heap.size, 0, none⟩ = some (.int .i64 k) ∧ W.cell? ⟨w.heap.size, 1, none⟩ = some (.int .i64 n) ∧ W.cell? ⟨w.heap.size, 2, none⟩ = some (.string s)) ∧
    (W.cell? ⟨w.heap.size + 1, 0, none⟩ = some (.int .i64 k') ∧ W.cell? ⟨w.heap.size + 1, 1, none⟩ = some (.int .i64 n') ∧ W.cell? ⟨w.heap.size + 1, 2, none⟩ = some (.string s')) ∧
    (W.cell? ⟨w.heap.size + 1 + 1, 0, none⟩ = some (.int .i64 k2) ∧ W.cell? ⟨w.heap.size + 1 + 1, 1, none⟩ = some (.int .i64 n2) ∧ W.cell? ⟨w.heap.size + 1 + 1, 2, none⟩ = some (.string s2)) ∧
    w.heap.size < W.heap.size ∧ w.heap.size + 1 < W.heap.size ∧ w.heap.size + 1 + 1 < W.heap.size :=
  ⟨h.2.1.cells3, h.2.2.1.cells3, h.2.2.2.cells3, h.2.1.lt, h.2.2.1.lt, h.2.2.2.lt⟩

theorem Three.set3 {w W : World} {a b c : Array Value} (h : Three w W a b c) {g : Nat} (hg : w.heap.size + 3 ≤ g) {x y z : Value} : Three w (((W.setCell ⟨g, 0, none⟩ x).setCell ⟨g, 1, none⟩ y).setCell ⟨g, 2, none⟩ z) a b c :=
  ⟨((h.1.setCell (by simp; omega) _).setCell (by simp; omega) _).setCell (by simp; omega) _, h.2.1.far3 (by omega), h.2.2.1.far3 (by omega), h.2.2.2.far3 (by omega)⟩
theorem quot_in {n n' : Int} (hn : inI n) : inI (n.tdiv n' * n') := by
  have e := Int.tmod_add_tdiv_mul n n'
  have b := tmod_between n n'
  obtain ⟨b1, b2⟩ := b
  obtain ⟨h1, h2⟩ := hn
  generalize n.tdiv n' * n' = m at *
  generalize n.tmod n' = r at *
  constructor <;> omega

theorem ord_ways {x y z : Int} (hx : -1 ≤ x ∧ x ≤ 1) (hy : -1 ≤ y ∧ y ≤ 1) (ht : x ≤ 0 → y ≤ 0 → z ≤ 0 ∧ (x = 0 → y = 0 → z = 0)) :
    (x = 1) ∨ (x = -1 ∧ 0 < y ∧ decide (y ≤ 0) = false) ∨ (x = -1 ∧ y ≤ 0 ∧ decide (y ≤ 0) = true ∧ z ≤ 0 ∧ decide (0 < z) = false) ∨ (x = 0 ∧ y = 1) ∨ (x = 0 ∧ y = 0 ∧ z = 0) ∨ (x = 0 ∧ y = -1 ∧ z ≤ 0 ∧ decide (0 < z) = false) := by
  simp only [decide_eq_true_eq, decide_eq_false_iff_not]
  omega

/-- the block that a pointer leads to, of operations number x and y -/
def ownAt (x y : Nat) : Nat → Value → Option Nat := fun j u => if j = x ∨ j = y then (match u with | .pointer (some a) => some a.block | _ => none) else none
def quotP (B : Nat) (a b q r : Value) : Nat → Value → World → Prop
  | 0, u, _ => u = a
  | 1, u, _ => u = b
  | 2, u, _ => u = q
  | 3, u, _ => u = a
  | 4, u, _ => u = b
  | 5, u, _ => u = r
  | 6, u, w => ∃ g, u = .pointer (some ⟨g, 0, none⟩) ∧ Has w g 29 #[.int .i64 0, .int .i64 0, .string ⟨#[]⟩] ∧ B ≤ g
  | 7, u, w => ∃ g, u = .pointer (some ⟨g, 0, none⟩) ∧ Has w g 29 #[.int .i64 0, .int .i64 0, .string ⟨#[]⟩] ∧ B ≤ g
  | _, _, _ => True
theorem quotP_stable (B : Nat) (a b q r : Value) : ∀ j u (w w' : World), Below w.heap.size w w' → quotP B a b q r j u w → quotP B a b q r j u w'
  | 0, _, _, _, _, h => h
  | 1, _, _, _, _, h => h
  | 2, _, _, _, _, h => h
  | 3, _, _, _, _, h => h
  | 4, _, _, _, _, h => h
  | 5, _, _, _, _, h => h
  | 6, _, _, _, hb, ⟨g, h, r, hB⟩ => ⟨g, h, r.belowS hb, hB⟩
  | 7, _, _, _, hb, ⟨g, h, r, hB⟩ => ⟨g, h, r.belowS hb, hB⟩
  | _ + 8, _, _, _, _, _ => trivial
theorem quotP_own (B : Nat) (a b q r : Value) : ∀ j u (w : World), quotP B a b q r j u w → ∀ c, ownAt 6 7 j u = some c → c < w.heap.size
  | 6, _, _, ⟨g, h, r, hB⟩, c, hc => by subst h; simp [ownAt] at hc; subst hc; exact r.lt
  | 7, _, _, ⟨g, h, r, hB⟩, c, hc => by subst h; simp [ownAt] at hc; subst hc; exact r.lt
  | 0, _, _, _, c, hc => by simp [ownAt] at hc
  | 1, _, _, _, c, hc => by simp [ownAt] at hc
  | 2, _, _, _, c, hc => by simp [ownAt] at hc
  | 3, _, _, _, c, hc => by simp [ownAt] at hc
  | 4, _, _, _, c, hc => by simp [ownAt] at hc
  | 5, _, _, _, c, hc => by simp [ownAt] at hc
  | _ + 8, _, _, _, c, hc => by simp [ownAt] at hc

set_option maxRecDepth 100000 in
set_option maxHeartbeats 6400000 in
theorem law_ValueLaws (k n : Int) (s : ByteArray) (k' n' : Int) (s' : ByteArray) (k2 n2 : Int) (s2 : ByteArray) (hn : inI n) (hn' : inI n') (w : World) :
    Calls Try.prog 11 #[.agg #[.int .i64 k, .int .i64 n, .string s], .agg #[.int .i64 k', .int .i64 n', .string s'], .agg #[.int .i64 k2, .int .i64 n2, .string s2]] w fun e w' => e = .returned (.bool true) ∧ Below w.heap.size w w' := by
  go_enter Try.func11, Try.ntmps11
  go_wp2_with fail
  have h3 := Three.start w #[.int .i64 k, .int .i64 n, .string s] #[.int .i64 k', .int .i64 n', .string s'] #[.int .i64 k2, .int .i64 n2, .string s2]
  generalize (((w.alloc (.cells #[.int .i64 k, .int .i64 n, .string s] 29)).alloc (.cells #[.int .i64 k', .int .i64 n', .string s'] 29)).alloc (.cells #[.int .i64 k2, .int .i64 n2, .string s2] 29)) = W at *
  have o1 := fun w => value_Order k n s k' n' s' w
  have o2 := fun w => value_Order k' n' s' k2 n2 s2 w
  have o3 := fun w => value_Order k n s k2 n2 s2 w
  have o4 := fun w => value_Order k' n' s' k n s w
  have o5 := fun w => value_Order k n s k n s w
  have o6 := fun w => value_Order 0 0 ⟨#[]⟩ 1 0 ⟨#[]⟩ w
  rw [orderV_anti] at o4
  rw [orderV_self] at o5
  rw [show orderV 0 0 ⟨#[]⟩ 1 0 ⟨#[]⟩ = -1 from rfl] at o6
  have ht := fun h1 h2 => orderV_trans (k := k) (n := n) (s := s) (k' := k') (n' := n') (s' := s') (k2 := k2) (n2 := n2) (s2 := s2) h1 h2
  have hx := orderV_val k n s k' n' s'
  have hy := orderV_val k' n' s' k2 n2 s2
  generalize orderV k n s k' n' s' = x at *
  generalize orderV k' n' s' k2 n2 s2 = y at *
  generalize orderV k n s k2 n2 s2 = z at *
  have ways := ord_ways hx hy ht
  have O1 := Lib.hid o1; have O2 := Lib.hid o2; have O3 := Lib.hid o3; have O4 := Lib.hid o4; have O5 := Lib.hid o5; have O6 := Lib.hid o6
  have HN := Lib.hid (And.intro hn hn')
  clear o1 o2 o3 o4 o5 o6 ht hx hy hn hn'
  obtain ⟨⟨a0, a1, a2⟩, ⟨b0, b1, b2⟩, ⟨c0, c1, c2⟩, z1, z2, z3⟩ := h3.cells
  refine wp_region_cls (W) (by kernel_rfl) (by kernel_rfl) (Cls.start _) ?_
  repeat
    refine wpQuiet_step (fun K hK => ?_)
    go_simp
    first
      | (refine hK _ ?_; clear hK K)
      | (apply Exists.intro; refine ⟨fun w' hw' => ?_, hK _ ?_⟩; (· (first | (with_reducible exact rfl) | (first | (go_at_call 21; (with_reducible refine (O1.out _).mono ?_); rintro e w1 ⟨rfl, hb⟩; exact ⟨rfl, Cls.step hw' hb⟩) | (go_at_call 21; (with_reducible refine (O2.out _).mono ?_); rintro e w1 ⟨rfl, hb⟩; exact ⟨rfl, Cls.step hw' hb⟩) | (go_at_call 21; (with_reducible refine (O3.out _).mono ?_); rintro e w1 ⟨rfl, hb⟩; exact ⟨rfl, Cls.step hw' hb⟩)) | (obtain ⟨hc, hf⟩ := hw'.facts; go_simp; first | done | (with_reducible exact rfl) | (with_reducible exact ⟨rfl, rfl⟩)))); clear hK K)
  refine wpQuiet_nil ?_
  intro wq hq
  have h4 := h3.step hq.bel
  clear a0 a1 a2 b0 b1 b2 c0 c1 c2 z1 z2 z3 h3 hq
  go_upto_region 2 with fail
  go_cut [63] (fun s63 wx => s63 = .bool false ∧ Three w wx #[.int .i64 k, .int .i64 n, .string s] #[.int .i64 k', .int .i64 n', .string s'] #[.int .i64 k2, .int .i64 n2, .string s2])
  case first =>
    obtain ⟨⟨a0, a1, a2⟩, ⟨b0, b1, b2⟩, ⟨c0, c1, c2⟩, z1, z2, z3⟩ := h4.cells
    rcases ways with rfl | ⟨rfl, y1, y2⟩ | ⟨rfl, y1, y2, y3, y4⟩ | ⟨rfl, rfl⟩ | ⟨rfl, rfl, rfl⟩ | ⟨rfl, rfl, y3, y4⟩
    all_goals
      clear O1 O2 O3
      go_wp2_with (first | (go_at_call 21; (with_reducible refine (O4.out _).mono ?_); rintro e w1 ⟨rfl, hb⟩; obtain ⟨hc, hf⟩ := bcell hb; have hz := hb.size; (try simp at hz); have hz0 : w.heap.size < w1.heap.size := (by omega); have hz1 : w.heap.size + 1 < w1.heap.size := (by omega); have hz2 : w.heap.size + 2 < w1.heap.size := (by omega)) | (go_at_call 21; (with_reducible refine (O5.out _).mono ?_); rintro e w1 ⟨rfl, hb⟩; obtain ⟨hc, hf⟩ := bcell hb; have hz := hb.size; (try simp at hz); have hz0 : w.heap.size < w1.heap.size := (by omega); have hz1 : w.heap.size + 1 < w1.heap.size := (by omega); have hz2 : w.heap.size + 2 < w1.heap.size := (by omega)) | (go_at_call 21; (with_reducible refine (O6.out _).mono ?_); rintro e w1 ⟨rfl, hb⟩; obtain ⟨hc, hf⟩ := bcell hb; have hz := hb.size; (try simp at hz); have hz0 : w.heap.size < w1.heap.size := (by omega); have hz1 : w.heap.size + 1 < w1.heap.size := (by omega); have hz2 : w.heap.size + 2 < w1.heap.size := (by omega)))
    all_goals
      go_meet
      exact ⟨rfl, Three.step (Three.step (Three.step h4 (by assumption)) (by assumption)) (by assumption)⟩
  case rest =>
    obtain ⟨rfl, h3⟩ := hcut
    clear O1 O2 O3 O4 O5 O6 ways h4
    go_wp2_with fail
    obtain ⟨⟨a0, a1, a2⟩, ⟨b0, b1, b2⟩, ⟨c0, c1, c2⟩, z1, z2, z3⟩ := h3.cells
    have t1 := threeN_lt k n
    have t2 := threeN_lt k' n'
    have t3 := threeN_lt k2 n2
    have v1 := fun w => value_Both k n s k' n' s' w
    have v2 := fun t w => value_Not (tK t) (tN t) ⟨#[]⟩ w
    have v3 := fun w => value_Not k n s w
    have v4 := fun w => value_Not k' n' s' w
    have v5 := fun t u w => value_Either (tK t) (tN t) ⟨#[]⟩ (tK u) (tN u) ⟨#[]⟩ w
    have v6 := fun w => value_Both k' n' s' k n s w
    have v7 := fun w => value_Either k' n' s' k2 n2 s2 w
    have v8 := fun w => value_Either k n s k' n' s' w
    have v9 := fun t w => value_Either k n s (tK t) (tN t) ⟨#[]⟩ w
    have v10 := fun t w => value_Either (tK t) (tN t) ⟨#[]⟩ k2 n2 s2 w
    have q2 := v2 (both3 (threeN k n) (threeN k' n'))
    have q5 := v5 (not3 (threeN k n)) (not3 (threeN k' n'))
    have q9 := v9 (either3 (threeN k' n') (threeN k2 n2))
    have q10 := v10 (either3 (threeN k n) (threeN k' n'))
    clear v2 v5 v9 v10
    simp only [threeN_t (both3_lt _ _), threeN_t (not3_lt _), threeN_t (either3_lt _ _)] at q2 q5 q9 q10
    rw [deMorgan t1 t2] at q5
    rw [both_comm] at v6
    rw [either_assoc t1 t2 t3] at q10
    have V1 := Lib.hid v1; have V3 := Lib.hid v3; have V4 := Lib.hid v4; have V6 := Lib.hid v6; have V7 := Lib.hid v7; have V8 := Lib.hid v8
    have Q2 := Lib.hid q2; have Q5 := Lib.hid q5; have Q9 := Lib.hid q9; have Q10 := Lib.hid q10
    clear v1 v3 v4 v6 v7 v8 q2 q5 q9 q10 t1 t2 t3
    refine wp_region_cls (wc) (by kernel_rfl) (by kernel_rfl) (Cls.start _) ?_
    repeat
      refine wpQuiet_step (fun K hK => ?_)
      go_simp
      first
        | (refine hK _ ?_; clear hK K)
        | (apply Exists.intro; refine ⟨fun w' hw' => ?_, hK _ ?_⟩; (· (first | (with_reducible exact rfl) | (first | (go_at_call 43; (with_reducible refine (V1.out _).mono ?_); rintro e w1 ⟨rfl, hb⟩; exact ⟨rfl, Cls.step hw' hb⟩) | (go_at_call 47; (with_reducible refine (V3.out _).mono ?_); rintro e w1 ⟨rfl, hb⟩; exact ⟨rfl, Cls.step hw' hb⟩) | (go_at_call 47; (with_reducible refine (V4.out _).mono ?_); rintro e w1 ⟨rfl, hb⟩; exact ⟨rfl, Cls.step hw' hb⟩) | (go_at_call 47; (with_reducible refine (Q2.out _).mono ?_); rintro e w1 ⟨rfl, hb⟩; exact ⟨rfl, Cls.step hw' hb⟩) | (go_at_call 45; (with_reducible refine (Q5.out _).mono ?_); rintro e w1 ⟨rfl, hb⟩; exact ⟨rfl, Cls.step hw' hb⟩) | (go_at_call 43; (with_reducible refine (V6.out _).mono ?_); rintro e w1 ⟨rfl, hb⟩; exact ⟨rfl, Cls.step hw' hb⟩) | (go_at_call 45; (with_reducible refine (V7.out _).mono ?_); rintro e w1 ⟨rfl, hb⟩; exact ⟨rfl, Cls.step hw' hb⟩) | (go_at_call 45; (with_reducible refine (V8.out _).mono ?_); rintro e w1 ⟨rfl, hb⟩; exact ⟨rfl, Cls.step hw' hb⟩) | (go_at_call 45; (with_reducible refine (Q9.out _).mono ?_); rintro e w1 ⟨rfl, hb⟩; exact ⟨rfl, Cls.step hw' hb⟩) | (go_at_call 45; (with_reducible refine (Q10.out _).mono ?_); rintro e w1 ⟨rfl, hb⟩; exact ⟨rfl, Cls.step hw' hb⟩)) | (obtain ⟨hc, hf⟩ := hw'.facts; go_simp; first | done | (with_reducible exact rfl) | (with_reducible exact ⟨rfl, rfl⟩)))); clear hK K)
    refine wpQuiet_nil ?_
    intro wq hq
    have h4 := h3.step hq.bel
    clear a0 a1 a2 b0 b1 b2 c0 c1 c2 z1 z2 z3 h3 hq V1 V3 V4 V6 V7 V8 Q2 Q5 Q9 Q10
    obtain ⟨⟨a0, a1, a2⟩, ⟨b0, b1, b2⟩, ⟨c0, c1, c2⟩, z1, z2, z3⟩ := h4.cells
    obtain ⟨hn, hn'⟩ := HN.out
    have r1 := fun w => value_Reckon 5 k n s k' n' s' hn hn' w
    have R1 := Lib.hid r1
    clear r1 hn hn'
    go_upto_region 7 with ((go_at_call 37; (with_reducible refine (R1.out _).mono ?_); rintro e w1 ⟨rfl, hb⟩; obtain ⟨hc, hf⟩ := bcell hb; have hz := hb.size; (try simp at hz); have hz0 : w.heap.size < w1.heap.size := (by omega); have hz1 : w.heap.size + 1 < w1.heap.size := (by omega); have hz2 : w.heap.size + 2 < w1.heap.size := (by omega)))
    have h5 := (h4.step hb).step ((Below.refl w1.heap.size w1).alloc (Nat.le_refl _) (.cells #[.int .i64 (recK (reckV 5 k n k' n')), .int .i64 (recN (reckV 5 k n k' n')), .string ⟨#[]⟩] 29))
    have hS := Has.new w1 29 #[.int .i64 (recK (reckV 5 k n k' n')), .int .i64 (recN (reckV 5 k n k' n')), .string ⟨#[]⟩]
    clear a0 a1 a2 b0 b1 b2 c0 c1 c2 z1 z2 z3 hb hc hf hz hz0 hz1 hz2 h4 R1
    generalize hg : w1.heap.size = g at *
    generalize w1.alloc (.cells #[.int .i64 (recK (reckV 5 k n k' n')), .int .i64 (recN (reckV 5 k n k' n')), .string ⟨#[]⟩] 29) = W5 at *
    clear hg
    go_cut [116] (fun s116 wx => s116 = .bool false ∧ Three w wx #[.int .i64 k, .int .i64 n, .string s] #[.int .i64 k', .int .i64 n', .string s'] #[.int .i64 k2, .int .i64 n2, .string s2])
    case first =>
      obtain ⟨⟨a0, a1, a2⟩, ⟨b0, b1, b2⟩, ⟨c0, c1, c2⟩, z1, z2, z3⟩ := h5.cells
      have z4 := hS.lt
      rcases sum_cases k n k' n' with e | ⟨rfl, rfl, hr, e⟩
      · rw [e] at hS
        obtain ⟨d0, d1, d2⟩ := hS.cells3
        have d0' : W5.cell? ⟨g, 0, none⟩ = some (.int .i64 0) := d0
        clear d0 d1 d2 e
        refine wp_region_cls (W5) (by kernel_rfl) (by kernel_rfl) (Cls.start _) ?_
        repeat
          first
            | go_big_quiet_skip
            | (go_big_quiet_want; (first | go_big_quiet_op | go_simp); first | go_big_quiet_on | (apply Exists.intro; refine ⟨fun w' hw' => ?_, ?_⟩; (· (first | (with_reducible exact rfl) | (fail) | (obtain ⟨hc, hf⟩ := hw'.facts; go_simp; first | done | (with_reducible exact rfl) | (with_reducible exact ⟨rfl, rfl⟩)))); go_big_quiet_on))
        refine wpQuiet_nil ?_
        intro wq hq
        have h6 := h5.step hq.bel
        go_wp2_with fail
        go_meet
        exact ⟨rfl, h6⟩
      · rw [e] at hS
        obtain ⟨d0, d1, d2⟩ := hS.cells3
        have d0' : W5.cell? ⟨g, 0, none⟩ = some (.int .i64 2) := d0
        have d1' : W5.cell? ⟨g, 1, none⟩ = some (.int .i64 (n + n')) := d1
        obtain ⟨hn, hn'⟩ := HN.out
        have r1 := fun w => value_Reckon 6 2 (n + n') ⟨#[]⟩ 2 n' s' hr hn' w
        rw [sum_back hn] at r1
        have r2 := fun w => value_Reckon 5 2 n' s' 2 n s hn' hn w
        rw [sum_comm hr] at r2
        have R1 : Hid (∀ w, Calls Try.prog 37 #[.int .i64 6, .agg #[.int .i64 2, .int .i64 (n + n'), .string ⟨#[]⟩], .agg #[.int .i64 2, .int .i64 n', .string s']] w fun e w' => e = .returned (.agg #[.int .i64 2, .int .i64 n, .string ⟨#[]⟩]) ∧ Below w.heap.size w w') := r1
        have R2 : Hid (∀ w, Calls Try.prog 37 #[.int .i64 5, .agg #[.int .i64 2, .int .i64 n', .string s'], .agg #[.int .i64 2, .int .i64 n, .string s]] w fun e w' => e = .returned (.agg #[.int .i64 2, .int .i64 (n + n'), .string ⟨#[]⟩]) ∧ Below w.heap.size w w') := r2
        have R3 : Hid (∀ w, Calls Try.prog 24 #[.agg #[.int .i64 2, .int .i64 n, .string s]] w fun e w' => e = .returned (.agg #[.int .i64 2, .int .i64 n, .string ⟨#[]⟩]) ∧ Below w.heap.size w w') := fun w => value_Clean 2 n s w
        clear d0 d1 e r1 r2 hn hn' hr
        refine wp_region_cls (W5) (by kernel_rfl) (by kernel_rfl) (Cls.start _) ?_
        repeat
          first
            | go_big_quiet_skip
            | (go_big_quiet_want; (first | go_big_quiet_op | go_simp); first | go_big_quiet_on | (apply Exists.intro; refine ⟨fun w' hw' => ?_, ?_⟩; (· (first | (with_reducible exact rfl) | (first | (go_at_call 37; (with_reducible refine (R1.out _).mono ?_); rintro e w1 ⟨rfl, hb⟩; exact ⟨rfl, Cls.step hw' hb⟩) | (go_at_call 37; (with_reducible refine (R2.out _).mono ?_); rintro e w1 ⟨rfl, hb⟩; exact ⟨rfl, Cls.step hw' hb⟩) | (go_at_call 24; (with_reducible refine (R3.out _).mono ?_); rintro e w1 ⟨rfl, hb⟩; exact ⟨rfl, Cls.step hw' hb⟩)) | (obtain ⟨hc, hf⟩ := hw'.facts; go_simp; first | done | (with_reducible exact rfl) | (with_reducible exact ⟨rfl, rfl⟩)))); go_big_quiet_on))
        refine wpQuiet_nil ?_
        intro wq hq
        have h6 := h5.step hq.bel
        go_wp2_with fail
        go_meet
        exact ⟨rfl, h6⟩
    case rest =>
      obtain ⟨rfl, h6⟩ := hcut
      clear h5 hS
      go_wp2_with fail
      obtain ⟨hn, hn'⟩ := HN.out
      have r1 := fun w => value_Reckon 8 k n s k' n' s' hn hn' w
      have r2 := fun w => value_Reckon 9 k n s k' n' s' hn hn' w
      have R1 := Lib.hid r1; have R2 := Lib.hid r2
      clear r1 r2 hn hn'
      go_cut [11, 12] (fun s11 s12 wx => ∃ g1 g2, s11 = .pointer (some ⟨g1, 0, none⟩) ∧ s12 = .pointer (some ⟨g2, 0, none⟩) ∧ Has wx g1 29 #[.int .i64 (recK (reckV 8 k n k' n')), .int .i64 (recN (reckV 8 k n k' n')), .string ⟨#[]⟩] ∧ Has wx g2 29 #[.int .i64 (recK (reckV 9 k n k' n')), .int .i64 (recN (reckV 9 k n k' n')), .string ⟨#[]⟩] ∧
        Three w wx #[.int .i64 k, .int .i64 n, .string s] #[.int .i64 k', .int .i64 n', .string s'] #[.int .i64 k2, .int .i64 n2, .string s2])
      case first =>
        obtain ⟨⟨a0, a1, a2⟩, ⟨b0, b1, b2⟩, ⟨c0, c1, c2⟩, z1, z2, z3⟩ := h6.cells
        refine wp_region_own 8 (Cls (wc)) (quotP (w.heap.size + 3) (.agg #[.int .i64 k, .int .i64 n, .string s]) (.agg #[.int .i64 k', .int .i64 n', .string s']) (.agg #[.int .i64 (recK (reckV 8 k n k' n')), .int .i64 (recN (reckV 8 k n k' n')), .string ⟨#[]⟩]) (.agg #[.int .i64 (recK (reckV 9 k n k' n')), .int .i64 (recN (reckV 9 k n k' n')), .string ⟨#[]⟩])) (ownAt 6 7) (by kernel_rfl) (by kernel_rfl) (by kernel_rfl) (fun _ _ hC hb => Cls.step hC hb) ?hst (Cls.start _) ?hown ?hund ?hops ?hend
        case hst => exact quotP_stable _ _ _ _ _
        case hown => exact quotP_own _ _ _ _ _
        case hund => intro j; unfold ownAt; split <;> rfl
        case hops =>
          intro us wx hus hC
          obtain ⟨u0, u1, u2, u3, u4, u5, u6, u7, rfl⟩ : ∃ u0 u1 u2 u3 u4 u5 u6 u7, us = [u0, u1, u2, u3, u4, u5, u6, u7] := by
            match us, hus with
            | [u0, u1, u2, u3, u4, u5, u6, u7], _ => exact ⟨u0, u1, u2, u3, u4, u5, u6, u7, rfl⟩
          clear hus
          simp only [fillA, Act.put, List.take_succ_cons, List.take_zero, List.setIfInBounds_toArray, List.set_cons_zero, List.set_cons_succ]
          refine ⟨fun h => ?_, fun h => ?_, fun h => ?_, fun h => ?_, fun h => ?_, fun h => ?_, fun h => ?_, fun h => ?_, trivial⟩
          · (clear h; refine good_own rfl ?_; obtain ⟨hc, hf⟩ := hC.facts; go_simp; exact ⟨Below.refl _ _, rfl, fun b hb => by cases hb⟩)
          · (clear h; refine good_own rfl ?_; obtain ⟨hc, hf⟩ := hC.facts; go_simp; exact ⟨Below.refl _ _, rfl, fun b hb => by cases hb⟩)
          · obtain rfl := h 0 rfl
            obtain rfl := h 1 rfl
            (clear h; refine good_own rfl ?_; go_simp; refine (R1.out _).mono ?_; rintro e w1 ⟨rfl, hb⟩; exact ⟨_, rfl, hb, rfl, fun b hb => by cases hb⟩)
          · (clear h; refine good_own rfl ?_; obtain ⟨hc, hf⟩ := hC.facts; go_simp; exact ⟨Below.refl _ _, rfl, fun b hb => by cases hb⟩)
          · (clear h; refine good_own rfl ?_; obtain ⟨hc, hf⟩ := hC.facts; go_simp; exact ⟨Below.refl _ _, rfl, fun b hb => by cases hb⟩)
          · obtain rfl := h 3 rfl
            obtain rfl := h 4 rfl
            (clear h; refine good_own rfl ?_; go_simp; refine (R2.out _).mono ?_; rintro e w1 ⟨rfl, hb⟩; exact ⟨_, rfl, hb, rfl, fun b hb => by cases hb⟩)
          · have hle := hC.bel.size
            clear h; refine good_own rfl ?_; go_simp; exact ⟨below_new _ _, ⟨_, rfl, Has.new _ _ _, by omega⟩, fun b hb => by cases hb; exact Nat.le_refl _⟩
          · have hle := hC.bel.size
            clear h; refine good_own rfl ?_; go_simp; exact ⟨below_new _ _, ⟨_, rfl, Has.new _ _ _, by omega⟩, fun b hb => by cases hb; exact Nat.le_refl _⟩
        case hend =>
          have h6s := h6
          clear h6
          intro us wx hus hC
          obtain ⟨u0, u1, u2, u3, u4, u5, u6, u7, rfl⟩ : ∃ u0 u1 u2 u3 u4 u5 u6 u7, us = [u0, u1, u2, u3, u4, u5, u6, u7] := by
            match us, hus with
            | [u0, u1, u2, u3, u4, u5, u6, u7], _ => exact ⟨u0, u1, u2, u3, u4, u5, u6, u7, rfl⟩
          clear hus
          intro hall
          obtain ⟨h0, h1, h2, h3, h4, h5, h6, h7, _⟩ := hall
          intro hne
          obtain rfl := h2
          obtain rfl := h5
          obtain ⟨g1, rfl, H1, B1⟩ := h6
          obtain ⟨g2, rfl, H2, B2⟩ := h7
          have hg : g1 ≠ g2 := fun e => hne 6 7 g1 (by simp) (by simp) (by decide) rfl (by rw [e]; rfl)
          have h7 := h6s.step hC.bel
          clear h0 h1 h3 h4 hne R1 R2 hC h6s a0 a1 a2 b0 b1 b2 c0 c1 c2 z1 z2 z3
          have y1 := H1.lt
          have y2 := H2.lt
          have y3 := H1.frozen
          have y4 := H2.frozen
          obtain ⟨p0, p1, p2⟩ := H1.cells3
          obtain ⟨p3, p4, p5⟩ := H2.cells3
          go_wp2_with fail
          go_meet
          exact ⟨g1, g2, rfl, rfl, H1.set3.far3 hg, (H2.far3 (Ne.symm hg)).set3, (h7.set3 B1).set3 B2⟩
      case rest =>
        obtain ⟨g1, g2, rfl, rfl, H1, H2, h7⟩ := hcut
        clear R1 R2 h6
        obtain ⟨hn, hn'⟩ := HN.out
        obtain ⟨⟨a0, a1, a2⟩, ⟨b0, b1, b2⟩, ⟨c0, c1, c2⟩, z1, z2, z3⟩ := h7.cells
        have z4 := H1.lt
        have z5 := H2.lt
        rcases quot_cases k n k' n' with e | ⟨rfl, rfl, hne, hno, e, e'⟩
        · rw [e] at H1
          obtain ⟨d0, d1, d2⟩ := H1.cells3
          have d0' : wc.cell? ⟨g1, 0, none⟩ = some (.int .i64 0) := d0
          clear d0 d1 d2 e H2 HN hn hn'
          go_wp2_with fail
          refine wp_region_cls (wc) (by kernel_rfl) (by kernel_rfl) (Cls.start _) ?_
          repeat
            first
              | go_big_quiet_skip
              | (go_big_quiet_want; (first | go_big_quiet_op | go_simp); first | go_big_quiet_on | (apply Exists.intro; refine ⟨fun w' hw' => ?_, ?_⟩; (· (first | (with_reducible exact rfl) | (fail) | (obtain ⟨hc, hf⟩ := hw'.facts; go_simp; first | done | (with_reducible exact rfl) | (with_reducible exact ⟨rfl, rfl⟩)))); go_big_quiet_on))
          refine wpQuiet_nil ?_
          intro wq hq
          have h8 := h7.step hq.bel
          go_wp2_with fail
          refine bodyPost_ret (v := .bool true) (by simp [results, Try.results11, go_sem, *]) rfl ⟨?_, ?_⟩
          · rfl
          · exact h8.1
        · rw [e] at H1
          rw [e'] at H2
          obtain ⟨d0, d1, d2⟩ := H1.cells3
          obtain ⟨f0, f1, f2⟩ := H2.cells3
          have d0' : wc.cell? ⟨g1, 0, none⟩ = some (.int .i64 2) := d0
          have d1' : wc.cell? ⟨g1, 1, none⟩ = some (.int .i64 (n.tdiv n')) := d1
          have f0' : wc.cell? ⟨g2, 0, none⟩ = some (.int .i64 2) := f0
          have f1' : wc.cell? ⟨g2, 1, none⟩ = some (.int .i64 (n.tmod n')) := f1
          have q7 := quot_mul (n' := n') hn
          have q5 := quot_add (n' := n') hn
          have hq1 : inI (n.tdiv n') := tdiv_in hn hno
          have hq2 : inI (n.tmod n') := tmod_in hn
          have hq3 : inI (n.tdiv n' * n') := quot_in hn
          have r1 := fun w => value_Reckon 7 2 (n.tdiv n') ⟨#[]⟩ 2 n' s' hq1 hn' w
          rw [q7] at r1
          have r2 := fun w => value_Reckon 5 2 (n.tdiv n' * n') ⟨#[]⟩ 2 (n.tmod n') ⟨#[]⟩ hq3 hq2 w
          rw [q5] at r2
          have R1 : Hid (∀ w, Calls Try.prog 37 #[.int .i64 7, .agg #[.int .i64 2, .int .i64 (n.tdiv n'), .string ⟨#[]⟩], .agg #[.int .i64 2, .int .i64 n', .string s']] w fun e w' => e = .returned (.agg #[.int .i64 2, .int .i64 (n.tdiv n' * n'), .string ⟨#[]⟩]) ∧ Below w.heap.size w w') := r1
          have R2 : Hid (∀ w, Calls Try.prog 37 #[.int .i64 5, .agg #[.int .i64 2, .int .i64 (n.tdiv n' * n'), .string ⟨#[]⟩], .agg #[.int .i64 2, .int .i64 (n.tmod n'), .string ⟨#[]⟩]] w fun e w' => e = .returned (.agg #[.int .i64 2, .int .i64 n, .string ⟨#[]⟩]) ∧ Below w.heap.size w w') := r2
          have R3 : Hid (∀ w, Calls Try.prog 24 #[.agg #[.int .i64 2, .int .i64 n, .string s]] w fun e w' => e = .returned (.agg #[.int .i64 2, .int .i64 n, .string ⟨#[]⟩]) ∧ Below w.heap.size w w') := fun w => value_Clean 2 n s w
          have R4 : Hid (∀ w, Calls Try.prog 37 #[.int .i64 5, .agg #[.int .i64 2, .int .i64 2, .string ⟨#[]⟩], .agg #[.int .i64 2, .int .i64 3, .string ⟨#[]⟩]] w fun e w' => e = .returned (.agg #[.int .i64 2, .int .i64 5, .string ⟨#[]⟩]) ∧ Below w.heap.size w w') := fun w => value_Reckon 5 2 2 ⟨#[]⟩ 2 3 ⟨#[]⟩ (by constructor <;> decide) (by constructor <;> decide) w
          clear d0 d1 e e' r1 r2 hn hn' hq1 hq2 hq3 q5 q7 hne hno HN f0 f1
          have hfd : ∀ w : World, (Instr.field 29 (.agg #[.int .i64 2, .int .i64 5, .string ⟨#[]⟩]) 1).run Try.prog w = .ok (.int .i64 5) w := fun _ => by kernel_rfl
          go_wp2_with fail
          refine wp_region_cls (wc) (by kernel_rfl) (by kernel_rfl) (Cls.start _) ?_
          repeat
            first
              | go_big_quiet_skip
              | (go_big_quiet_want; (first | go_big_quiet_op | go_simp); first | go_big_quiet_on | (apply Exists.intro; refine ⟨fun w' hw' => ?_, ?_⟩; (· (first | (with_reducible exact rfl) | (first | (go_at_call 37; (with_reducible refine (R4.out _).mono ?_); rintro e w1 ⟨rfl, hb⟩; exact ⟨rfl, Cls.step hw' hb⟩) | (go_at_call 37; (with_reducible refine (R1.out _).mono ?_); rintro e w1 ⟨rfl, hb⟩; exact ⟨rfl, Cls.step hw' hb⟩) | (go_at_call 37; (with_reducible refine (R2.out _).mono ?_); rintro e w1 ⟨rfl, hb⟩; exact ⟨rfl, Cls.step hw' hb⟩) | (go_at_call 24; (with_reducible refine (R3.out _).mono ?_); rintro e w1 ⟨rfl, hb⟩; exact ⟨rfl, Cls.step hw' hb⟩)) | (obtain ⟨hc, hf⟩ := hw'.facts; go_simp; first | done | (with_reducible exact rfl) | (with_reducible exact ⟨rfl, rfl⟩)))); go_big_quiet_on))
          refine wpQuiet_nil ?_
          intro wq hq
          have h8 := h7.step hq.bel
          go_wp2_with fail
          refine bodyPost_ret (v := .bool true) (by simp [results, Try.results11, go_sem, *]) rfl ⟨?_, ?_⟩
          · rfl
          · exact h8.1

end Go.Proofs.Ytlkkpgdgnnknpaa
