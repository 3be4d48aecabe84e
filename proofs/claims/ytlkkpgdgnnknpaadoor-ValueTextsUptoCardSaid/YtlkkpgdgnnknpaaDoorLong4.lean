/-
  plus of the reference's long numbers.
-/
import Derived.Test.YtlkkpgdgnnknpaaDoorLong3
namespace Go.Proofs.YtlkkpgdgnnknpaaDoor
open Go.RowKit
set_option linter.unusedVariables false
set_option linter.unusedSimpArgs false
open Go.BigFrame
attribute [local go_sem] OpGood goodUpon fillA Act.put

/-- a slice value that reads as this list -/
def IV (B : Nat) (w : World) (l : List Int) (u : Value) : Prop := ∃ A n c, u = .slice A n c ∧ n ≤ c ∧ c ≤ 9223372036854775807 ∧ IS w A n l ∧ Fresh B A
theorem IV.keep {B : Nat} {w w' : World} {l : List Int} {u : Value} (h : IV B w l u) (hb : Below w.heap.size w w') : IV B w' l u := by
  obtain ⟨A, n, c, e, h1, h2, h3, h4⟩ := h
  exact ⟨A, n, c, e, h1, h2, h3.keep hb, h4⟩
/-- sign at slot 1, digits at slots 3 and 5, their joint at 6, the number at 7 -/
def plusP (B : Nat) (b b2 b3 : Value) (m : Bool) (v v' : Value) (l : List Int) : Nat → Value → World → Prop
  | 0, u, _ => u = b
  | 1, u, _ => u = .bool m
  | 2, u, _ => u = b2
  | 3, u, _ => u = v
  | 4, u, _ => u = b3
  | 5, u, _ => u = v'
  | 6, u, w => IV B w l u
  | 7, u, w => ∃ x, u = .agg #[.bool m, x] ∧ IV B w l x
  | _, _, _ => True
theorem plusP_stable (B : Nat) (b b2 b3 : Value) (m : Bool) (v v' : Value) (l : List Int) : ∀ j u (w w' : World), Below w.heap.size w w' → plusP B b b2 b3 m v v' l j u w → plusP B b b2 b3 m v v' l j u w'
  | 0, _, _, _, _, h => h
  | 1, _, _, _, _, h => h
  | 2, _, _, _, _, h => h
  | 3, _, _, _, _, h => h
  | 4, _, _, _, _, h => h
  | 5, _, _, _, _, h => h
  | 6, _, _, _, hb, h => h.keep hb
  | 7, _, _, _, hb, ⟨x, e, h⟩ => ⟨x, e, h.keep hb⟩
  | _ + 8, _, _, _, _, _ => trivial
theorem ints_IV {w w' : World} {l : List Int} {e : Ending} (h : IntsPost w l e w') : ∃ u, e = .returned u ∧ Below w.heap.size w w' ∧ IV w.heap.size w' l u := by
  obtain ⟨A, n, c, rfl, h1, h2, h3, h4, h5⟩ := h
  exact ⟨_, rfl, h5, A, n, c, rfl, h1, h2, h3, h4⟩
theorem IV.low {B B' : Nat} {w : World} {l : List Int} {u : Value} (h : IV B w l u) (hB : B' ≤ B) : IV B' w l u := by
  obtain ⟨A, n, c, e, h1, h2, h3, h4⟩ := h
  exact ⟨A, n, c, e, h1, h2, h3, fun a ha => Nat.le_trans hB (h4 a ha)⟩

/-- three blocks of the call's own -/
def Box3 (w W : World) (t : TypeId) (a b c : Array Value) : Prop := Below w.heap.size w W ∧ Has W w.heap.size t a ∧ Has W (w.heap.size + 1) t b ∧ Has W (w.heap.size + 1 + 1) t c
theorem Box3.start (w : World) (t : TypeId) (a b c : Array Value) : Box3 w (((w.alloc (.cells a t)).alloc (.cells b t)).alloc (.cells c t)) t a b c := by
  refine ⟨?_, ((Has.new w _ a).alloc _).alloc _, ?_, ?_⟩
  · exact (((Below.refl _ _).alloc (Nat.le_refl _) _).alloc (by simp) _).alloc (by simp; omega) _
  · have := (Has.new (w.alloc (.cells a t)) t b).alloc (.cells c t)
    simpa using this
  · have := Has.new ((w.alloc (.cells a t)).alloc (.cells b t)) t c
    simpa using this
theorem Box3.step {w W W' : World} {t : TypeId} {a b c : Array Value} (h : Box3 w W t a b c) (hb : Below W.heap.size W W') : Box3 w W' t a b c :=
  ⟨bel_step h.1 hb h.1.size, h.2.1.belowS hb, h.2.2.1.belowS hb, h.2.2.2.belowS hb⟩
theorem IS.far {w : World} {l : List Int} {A : Option Addr} {n B : Nat} (h : IS w A n l) (hB : Fresh B A) (p : Addr) (x : Value) (hp : p.block < B) : IS (w.setCell p x) A n l := by
  refine ⟨h.1, fun hn => ?_⟩
  obtain ⟨b, off, hA, hl, hc⟩ := h.2 hn
  have hb := hB _ hA
  refine ⟨b, off, hA, by simpa using hl, fun i v hv => ?_⟩
  rw [World.cell?_of_block (a := ⟨b, off + i, none⟩) (Below.heap_setCell w p x b (by simp at hb; omega))]
  exact hc i v hv

set_option maxRecDepth 100000 in
set_option maxHeartbeats 6400000 in
theorem ref_plus (m m' : Bool) (A A' : Option Addr) (n n' c c' : Nat) (l l' : List Int) (w : World) (h : IS w A n l) (h' : IS w A' n' l') (ha : Digs l) (hb : Digs l') (hN : (n + n' + 2) * 8 ≤ 140737488355328) :
    Calls Tryd.prog 67 #[.agg #[.bool m, .slice A n c], .agg #[.bool m', .slice A' n' c']] w (LongPost w (plusM m l m' l') (plusD m l m' l')) := by
  have J1 := Lib.hid (fun w1 (hw : Below w.heap.size w w1) => ref_joint A A' n n' c c' l l' 1 w1 (h.keep hw) (h'.keep hw) ha hb (by omega) (by omega) hN)
  have J2 := Lib.hid (fun w1 (hw : Below w.heap.size w w1) => ref_joint A' A n' n c' c l' l (-1) w1 (h'.keep hw) (h.keep hw) hb ha (by omega) (by omega) (by omega))
  have J3 := Lib.hid (fun w1 (hw : Below w.heap.size w w1) => ref_joint A A' n n' c c' l l' (-1) w1 (h.keep hw) (h'.keep hw) ha hb (by omega) (by omega) hN)
  have J4 := Lib.hid (fun w1 (hw : Below w.heap.size w w1) => ref_above A' A n' n c' c l' l w1 (h'.keep hw) (h.keep hw) (by omega) (by omega))
  clear h h' ha hb hN
  by_cases hm : m = m'
  · subst hm
    have E1 := Lib.hid (show plusM m l m l' = m by simp [plusM])
    have E2 := Lib.hid (show plusD m l m l' = jointD l l' 1 by simp [plusD])
    go_enter Tryd.func67, Tryd.ntmps67
    go_wp2_with fail
    have hbox := Box3.start w 82 #[.bool m, .slice A n c] #[.bool m, .slice A' n' c'] #[.bool false, .slice none 0 0]
    generalize (((w.alloc (.cells #[.bool m, .slice A n c] 82)).alloc (.cells #[.bool m, .slice A' n' c'] 82)).alloc (.cells #[.bool false, .slice none 0 0] 82)) = W at *
    refine wp_region_inv 8 (Cls (W)) (plusP (w.heap.size + 3) (.pointer (some ⟨w.heap.size, 0, none⟩)) (.pointer (some ⟨w.heap.size, 1, none⟩)) (.pointer (some ⟨w.heap.size + 1, 1, none⟩)) m (.slice A n c) (.slice A' n' c') (jointD l l' 1)) (by kernel_rfl) (by kernel_rfl) (by kernel_rfl) (fun _ _ hC hb => Cls.step hC hb) ?hst (Cls.start _) ?hops ?hend
    case hst => exact plusP_stable _ _ _ _ _ _ _ _
    case hops =>
      obtain ⟨a0, a1⟩ := hbox.2.1.cells2
      obtain ⟨b0, b1⟩ := hbox.2.2.1.cells2
      have z1 := hbox.2.1.lt
      have z2 := hbox.2.2.1.lt
      intro us wx hus hC
      obtain ⟨u0, u1, u2, u3, u4, u5, u6, u7, rfl⟩ : ∃ u0 u1 u2 u3 u4 u5 u6 u7, us = [u0, u1, u2, u3, u4, u5, u6, u7] := by
        match us, hus with
        | [u0, u1, u2, u3, u4, u5, u6, u7], _ => exact ⟨u0, u1, u2, u3, u4, u5, u6, u7, rfl⟩
      clear hus
      simp only [fillA, Act.put, List.take_succ_cons, List.take_zero, List.setIfInBounds_toArray, List.set_cons_zero, List.set_cons_succ]
      refine ⟨fun h => ?_, fun h => ?_, fun h => ?_, fun h => ?_, fun h => ?_, fun h => ?_, fun h => ?_, fun h => ?_, trivial⟩
      · (clear h; refine good_plain rfl ?_; go_simp; exact ⟨Below.refl _ _, rfl⟩)
      · obtain rfl := h 0 rfl
        (clear h; refine good_plain rfl ?_; obtain ⟨hc, hf⟩ := hC.facts; go_simp; exact ⟨Below.refl _ _, rfl⟩)
      · (clear h; refine good_plain rfl ?_; go_simp; exact ⟨Below.refl _ _, rfl⟩)
      · obtain rfl := h 2 rfl
        (clear h; refine good_plain rfl ?_; obtain ⟨hc, hf⟩ := hC.facts; go_simp; exact ⟨Below.refl _ _, rfl⟩)
      · (clear h; refine good_plain rfl ?_; go_simp; exact ⟨Below.refl _ _, rfl⟩)
      · obtain rfl := h 4 rfl
        (clear h; refine good_plain rfl ?_; obtain ⟨hc, hf⟩ := hC.facts; go_simp; exact ⟨Below.refl _ _, rfl⟩)
      · obtain rfl := h 3 rfl
        obtain rfl := h 5 rfl
        have hle := hbox.2.2.2.lt
        have hle2 := hC.bel.size
        clear h; refine good_plain rfl ?_; go_simp
        refine (J1.out _ (bel_step hbox.1 hC.bel hbox.1.size)).mono ?_
        intro e w2 hp
        obtain ⟨u, he, hb, hi⟩ := ints_IV hp
        exact ⟨u, he, hb, hi.low (by omega)⟩
      · obtain rfl := h 1 rfl
        obtain ⟨A6, n6, c6, rfl, g6⟩ := h 6 rfl
        clear h; refine good_plain rfl ?_; go_simp
        exact ⟨Below.refl _ _, _, rfl, A6, n6, c6, rfl, g6⟩
    case hend =>
      intro us wx hus hC
      obtain ⟨u0, u1, u2, u3, u4, u5, u6, u7, rfl⟩ : ∃ u0 u1 u2 u3 u4 u5 u6 u7, us = [u0, u1, u2, u3, u4, u5, u6, u7] := by
        match us, hus with
        | [u0, u1, u2, u3, u4, u5, u6, u7], _ => exact ⟨u0, u1, u2, u3, u4, u5, u6, u7, rfl⟩
      clear hus
      intro hall
      obtain ⟨h0, h1, h2, h3, h4, h5, h6, h7, _⟩ := hall
      obtain ⟨x, rfl, A2, n2, c2, rfl, q1, q2, q3, q4⟩ := h7
      have hbx := hbox.step hC.bel
      obtain ⟨r0, r1⟩ := hbx.2.2.2.cells2
      have r3 := hbx.2.2.2.frozen
      have r4 := hbx.2.2.2.lt
      have HQ3 := Lib.hid q3; have HQ4 := Lib.hid q4; have HBX := Lib.hid hbx
      clear h0 h1 h2 h3 h4 h5 h6 hC hbox q3 q4 hbx
      go_wp2_with fail
      refine bodyPost_ret (v := .agg #[.bool m, .slice A2 n2 c2]) (by simp [results, Tryd.results67, go_sem, *]) rfl ⟨A2, n2, c2, by rw [E1.out], q1, q2, ?_, fun a ha => by have := HQ4.out a ha; omega, (HBX.out.1.setCell (by simp; omega) _).setCell (by simp; omega) _⟩
      rw [E2.out]
      exact (HQ3.out.far HQ4.out _ _ (by simp)).far HQ4.out _ _ (by simp)
  · have g0 : (m == m') = false := by cases m <;> cases m' <;> simp_all
    have B3 := Lib.hid (Box3.start w 82 #[.bool m, .slice A n c] #[.bool m', .slice A' n' c'] #[.bool false, .slice none 0 0])
    cases hab : aboveD l' l
    · have E1 := Lib.hid (show plusM m l m' l' = m by simp [plusM, hab])
      have E2 := Lib.hid (show plusD m l m' l' = jointD l l' (-1) by simp [plusD, hab, g0])
      rw [hab] at J4
      clear hm hab
      go_enter Tryd.func67, Tryd.ntmps67
      go_wp2_with (go_at_call 84; refine (J4.out _ B3.out.1).mono ?_; rintro e w1 ⟨rfl, hb⟩)
      have hbox := B3.out.step hb
      clear hb B3
      refine wp_region_inv 8 (Cls (w1)) (plusP (w.heap.size + 3) (.pointer (some ⟨w.heap.size, 0, none⟩)) (.pointer (some ⟨w.heap.size, 1, none⟩)) (.pointer (some ⟨w.heap.size + 1, 1, none⟩)) m (.slice A n c) (.slice A' n' c') (jointD l l' (-1))) (by kernel_rfl) (by kernel_rfl) (by kernel_rfl) (fun _ _ hC hb => Cls.step hC hb) ?hst (Cls.start _) ?hops ?hend
      case hst => exact plusP_stable _ _ _ _ _ _ _ _
      case hops =>
        obtain ⟨a0, a1⟩ := hbox.2.1.cells2
        obtain ⟨b0, b1⟩ := hbox.2.2.1.cells2
        have z1 := hbox.2.1.lt
        have z2 := hbox.2.2.1.lt
        intro us wx hus hC
        obtain ⟨u0, u1, u2, u3, u4, u5, u6, u7, rfl⟩ : ∃ u0 u1 u2 u3 u4 u5 u6 u7, us = [u0, u1, u2, u3, u4, u5, u6, u7] := by
          match us, hus with
          | [u0, u1, u2, u3, u4, u5, u6, u7], _ => exact ⟨u0, u1, u2, u3, u4, u5, u6, u7, rfl⟩
        clear hus
        simp only [fillA, Act.put, List.take_succ_cons, List.take_zero, List.setIfInBounds_toArray, List.set_cons_zero, List.set_cons_succ]
        refine ⟨fun h => ?_, fun h => ?_, fun h => ?_, fun h => ?_, fun h => ?_, fun h => ?_, fun h => ?_, fun h => ?_, trivial⟩
        · (clear h; refine good_plain rfl ?_; go_simp; exact ⟨Below.refl _ _, rfl⟩)
        · obtain rfl := h 0 rfl
          (clear h; refine good_plain rfl ?_; obtain ⟨hc, hf⟩ := hC.facts; go_simp; exact ⟨Below.refl _ _, rfl⟩)
        · (clear h; refine good_plain rfl ?_; go_simp; exact ⟨Below.refl _ _, rfl⟩)
        · obtain rfl := h 2 rfl
          (clear h; refine good_plain rfl ?_; obtain ⟨hc, hf⟩ := hC.facts; go_simp; exact ⟨Below.refl _ _, rfl⟩)
        · (clear h; refine good_plain rfl ?_; go_simp; exact ⟨Below.refl _ _, rfl⟩)
        · obtain rfl := h 4 rfl
          (clear h; refine good_plain rfl ?_; obtain ⟨hc, hf⟩ := hC.facts; go_simp; exact ⟨Below.refl _ _, rfl⟩)
        · obtain rfl := h 3 rfl
          obtain rfl := h 5 rfl
          have hle := hbox.2.2.2.lt
          have hle2 := hC.bel.size
          clear h; refine good_plain rfl ?_; go_simp
          refine (J3.out _ (bel_step hbox.1 hC.bel hbox.1.size)).mono ?_
          intro e w2 hp
          obtain ⟨u, he, hb, hi⟩ := ints_IV hp
          exact ⟨u, he, hb, hi.low (by omega)⟩
        · obtain rfl := h 1 rfl
          obtain ⟨A6, n6, c6, rfl, g6⟩ := h 6 rfl
          clear h; refine good_plain rfl ?_; go_simp
          exact ⟨Below.refl _ _, _, rfl, A6, n6, c6, rfl, g6⟩
      case hend =>
        intro us wx hus hC
        obtain ⟨u0, u1, u2, u3, u4, u5, u6, u7, rfl⟩ : ∃ u0 u1 u2 u3 u4 u5 u6 u7, us = [u0, u1, u2, u3, u4, u5, u6, u7] := by
          match us, hus with
          | [u0, u1, u2, u3, u4, u5, u6, u7], _ => exact ⟨u0, u1, u2, u3, u4, u5, u6, u7, rfl⟩
        clear hus
        intro hall
        obtain ⟨h0, h1, h2, h3, h4, h5, h6, h7, _⟩ := hall
        obtain ⟨x, rfl, A2, n2, c2, rfl, q1, q2, q3, q4⟩ := h7
        have hbx := hbox.step hC.bel
        obtain ⟨r0, r1⟩ := hbx.2.2.2.cells2
        have r3 := hbx.2.2.2.frozen
        have r4 := hbx.2.2.2.lt
        have HQ3 := Lib.hid q3; have HQ4 := Lib.hid q4; have HBX := Lib.hid hbx
        clear h0 h1 h2 h3 h4 h5 h6 hC hbox q3 q4 hbx
        go_wp2_with fail
        refine bodyPost_ret (v := .agg #[.bool m, .slice A2 n2 c2]) (by simp [results, Tryd.results67, go_sem, *]) rfl ⟨A2, n2, c2, by rw [E1.out], q1, q2, ?_, fun a ha => by have := HQ4.out a ha; omega, (HBX.out.1.setCell (by simp; omega) _).setCell (by simp; omega) _⟩
        rw [E2.out]
        exact (HQ3.out.far HQ4.out _ _ (by simp)).far HQ4.out _ _ (by simp)
    · have E1 := Lib.hid (show plusM m l m' l' = m' by simp [plusM, hab, g0])
      have E2 := Lib.hid (show plusD m l m' l' = jointD l' l (-1) by simp [plusD, hab, g0])
      rw [hab] at J4
      clear hm hab
      go_enter Tryd.func67, Tryd.ntmps67
      go_wp2_with (go_at_call 84; refine (J4.out _ B3.out.1).mono ?_; rintro e w1 ⟨rfl, hb⟩)
      have hbox := B3.out.step hb
      clear hb B3
      refine wp_region_inv 8 (Cls (w1)) (plusP (w.heap.size + 3) (.pointer (some ⟨w.heap.size + 1, 0, none⟩)) (.pointer (some ⟨w.heap.size + 1, 1, none⟩)) (.pointer (some ⟨w.heap.size, 1, none⟩)) m' (.slice A' n' c') (.slice A n c) (jointD l' l (-1))) (by kernel_rfl) (by kernel_rfl) (by kernel_rfl) (fun _ _ hC hb => Cls.step hC hb) ?hst (Cls.start _) ?hops ?hend
      case hst => exact plusP_stable _ _ _ _ _ _ _ _
      case hops =>
        obtain ⟨a0, a1⟩ := hbox.2.1.cells2
        obtain ⟨b0, b1⟩ := hbox.2.2.1.cells2
        have z1 := hbox.2.1.lt
        have z2 := hbox.2.2.1.lt
        intro us wx hus hC
        obtain ⟨u0, u1, u2, u3, u4, u5, u6, u7, rfl⟩ : ∃ u0 u1 u2 u3 u4 u5 u6 u7, us = [u0, u1, u2, u3, u4, u5, u6, u7] := by
          match us, hus with
          | [u0, u1, u2, u3, u4, u5, u6, u7], _ => exact ⟨u0, u1, u2, u3, u4, u5, u6, u7, rfl⟩
        clear hus
        simp only [fillA, Act.put, List.take_succ_cons, List.take_zero, List.setIfInBounds_toArray, List.set_cons_zero, List.set_cons_succ]
        refine ⟨fun h => ?_, fun h => ?_, fun h => ?_, fun h => ?_, fun h => ?_, fun h => ?_, fun h => ?_, fun h => ?_, trivial⟩
        · (clear h; refine good_plain rfl ?_; go_simp; exact ⟨Below.refl _ _, rfl⟩)
        · obtain rfl := h 0 rfl
          (clear h; refine good_plain rfl ?_; obtain ⟨hc, hf⟩ := hC.facts; go_simp; exact ⟨Below.refl _ _, rfl⟩)
        · (clear h; refine good_plain rfl ?_; go_simp; exact ⟨Below.refl _ _, rfl⟩)
        · obtain rfl := h 2 rfl
          (clear h; refine good_plain rfl ?_; obtain ⟨hc, hf⟩ := hC.facts; go_simp; exact ⟨Below.refl _ _, rfl⟩)
        · (clear h; refine good_plain rfl ?_; go_simp; exact ⟨Below.refl _ _, rfl⟩)
        · obtain rfl := h 4 rfl
          (clear h; refine good_plain rfl ?_; obtain ⟨hc, hf⟩ := hC.facts; go_simp; exact ⟨Below.refl _ _, rfl⟩)
        · obtain rfl := h 3 rfl
          obtain rfl := h 5 rfl
          have hle := hbox.2.2.2.lt
          have hle2 := hC.bel.size
          clear h; refine good_plain rfl ?_; go_simp
          refine (J2.out _ (bel_step hbox.1 hC.bel hbox.1.size)).mono ?_
          intro e w2 hp
          obtain ⟨u, he, hb, hi⟩ := ints_IV hp
          exact ⟨u, he, hb, hi.low (by omega)⟩
        · obtain rfl := h 1 rfl
          obtain ⟨A6, n6, c6, rfl, g6⟩ := h 6 rfl
          clear h; refine good_plain rfl ?_; go_simp
          exact ⟨Below.refl _ _, _, rfl, A6, n6, c6, rfl, g6⟩
      case hend =>
        intro us wx hus hC
        obtain ⟨u0, u1, u2, u3, u4, u5, u6, u7, rfl⟩ : ∃ u0 u1 u2 u3 u4 u5 u6 u7, us = [u0, u1, u2, u3, u4, u5, u6, u7] := by
          match us, hus with
          | [u0, u1, u2, u3, u4, u5, u6, u7], _ => exact ⟨u0, u1, u2, u3, u4, u5, u6, u7, rfl⟩
        clear hus
        intro hall
        obtain ⟨h0, h1, h2, h3, h4, h5, h6, h7, _⟩ := hall
        obtain ⟨x, rfl, A2, n2, c2, rfl, q1, q2, q3, q4⟩ := h7
        have hbx := hbox.step hC.bel
        obtain ⟨r0, r1⟩ := hbx.2.2.2.cells2
        have r3 := hbx.2.2.2.frozen
        have r4 := hbx.2.2.2.lt
        have HQ3 := Lib.hid q3; have HQ4 := Lib.hid q4; have HBX := Lib.hid hbx
        clear h0 h1 h2 h3 h4 h5 h6 hC hbox q3 q4 hbx
        go_wp2_with fail
        refine bodyPost_ret (v := .agg #[.bool m', .slice A2 n2 c2]) (by simp [results, Tryd.results67, go_sem, *]) rfl ⟨A2, n2, c2, by rw [E1.out], q1, q2, ?_, fun a ha => by have := HQ4.out a ha; omega, (HBX.out.1.setCell (by simp; omega) _).setCell (by simp; omega) _⟩
        rw [E2.out]
        exact (HQ3.out.far HQ4.out _ _ (by simp)).far HQ4.out _ _ (by simp)

end Go.Proofs.YtlkkpgdgnnknpaaDoor
