/-
  Either of package value; Both and Either of the reference (a table of truths).
-/
import Derived.Test.YtlkkpgdgnnknpaaThree
namespace Go.Proofs.Ytlkkpgdgnnknpaa
open Go.RowKit
attribute [local go_sem] OpGood goodUpon

def eitherP (k n : Int) (s : ByteArray) (k' n' : Int) (s' : ByteArray) : Nat → Value → World → Prop
  | 0, u, _ => u = .agg #[.int .i64 k, .int .i64 n, .string s]
  | 1, u, _ => u = .agg #[.int .i64 (tK (not3 (threeN k n))), .int .i64 (tN (not3 (threeN k n))), .string ⟨#[]⟩]
  | 2, u, _ => u = .agg #[.int .i64 k', .int .i64 n', .string s']
  | 3, u, _ => u = .agg #[.int .i64 (tK (not3 (threeN k' n'))), .int .i64 (tN (not3 (threeN k' n'))), .string ⟨#[]⟩]
  | 4, u, _ => u = .agg #[.int .i64 (tK (both3 (not3 (threeN k n)) (not3 (threeN k' n')))), .int .i64 (tN (both3 (not3 (threeN k n)) (not3 (threeN k' n')))), .string ⟨#[]⟩]
  | 5, u, _ => u = .agg #[.int .i64 (tK (either3 (threeN k n) (threeN k' n'))), .int .i64 (tN (either3 (threeN k n) (threeN k' n'))), .string ⟨#[]⟩]
  | _, _, _ => True
theorem eitherP_stable (k n : Int) (s : ByteArray) (k' n' : Int) (s' : ByteArray) : ∀ j u (w w' : World), Below w.heap.size w w' → eitherP k n s k' n' s' j u w → eitherP k n s k' n' s' j u w'
  | 0, _, _, _, _, h => h
  | 1, _, _, _, _, h => h
  | 2, _, _, _, _, h => h
  | 3, _, _, _, _, h => h
  | 4, _, _, _, _, h => h
  | 5, _, _, _, _, h => h
  | _ + 6, _, _, _, _, _ => trivial

attribute [local go_sem] fillA Act.put
set_option maxRecDepth 100000 in
set_option maxHeartbeats 1600000 in
theorem value_Either (k n : Int) (s : ByteArray) (k' n' : Int) (s' : ByteArray) (w : World) : Calls Try.prog 45 #[.agg #[.int .i64 k, .int .i64 n, .string s], .agg #[.int .i64 k', .int .i64 n', .string s']] w fun e w' => e = .returned (.agg #[.int .i64 (tK (either3 (threeN k n) (threeN k' n'))), .int .i64 (tN (either3 (threeN k n) (threeN k' n'))), .string ⟨#[]⟩]) ∧ Below w.heap.size w w' := by
  go_enter Try.func45, Try.ntmps45
  go_wp2_with fail
  have hb0 : Below w.heap.size w (((w.alloc (.cells #[.int .i64 k, .int .i64 n, .string s] 29)).alloc (.cells #[.int .i64 k', .int .i64 n', .string s'] 29)).alloc (.cells #[.int .i64 0, .int .i64 0, .string ⟨#[]⟩] 29)) := by (repeat (first | exact Below.refl _ _ | (refine Below.setCell ?_ (by first | omega | (simp <;> omega)) _) | refine Below.drew ?_ | (refine Below.alloc ?_ (by first | omega | (simp <;> omega)) _) | (refine bel_step ?_ (by assumption) (by first | omega | (simp <;> omega)))))
  have hA := (((Has.new w 29 #[.int .i64 k, .int .i64 n, .string s]).alloc (.cells #[.int .i64 k', .int .i64 n', .string s'] 29))).alloc (.cells #[.int .i64 0, .int .i64 0, .string ⟨#[]⟩] 29)
  have hB := (Has.new (w.alloc (.cells #[.int .i64 k, .int .i64 n, .string s] 29)) 29 #[.int .i64 k', .int .i64 n', .string s']).alloc (.cells #[.int .i64 0, .int .i64 0, .string ⟨#[]⟩] 29)
  have hR := Has.new ((w.alloc (.cells #[.int .i64 k, .int .i64 n, .string s] 29)).alloc (.cells #[.int .i64 k', .int .i64 n', .string s'] 29)) 29 #[.int .i64 0, .int .i64 0, .string ⟨#[]⟩]
  simp only [World.size_alloc] at hB hR
  generalize (((w.alloc (.cells #[.int .i64 k, .int .i64 n, .string s] 29)).alloc (.cells #[.int .i64 k', .int .i64 n', .string s'] 29)).alloc (.cells #[.int .i64 0, .int .i64 0, .string ⟨#[]⟩] 29)) = W at *
  refine wp_region_inv 6 (Cls (W)) (eitherP k n s k' n' s') (by kernel_rfl) (by kernel_rfl) (by kernel_rfl) (fun _ _ hC hb => Cls.step hC hb) ?hst (Cls.start _) ?hops ?hend
  case hst => exact eitherP_stable k n s k' n' s'
  case hops =>
    obtain ⟨a0, a1, a2⟩ := hA.cells3
    obtain ⟨b0, b1, b2⟩ := hB.cells3
    have z1 := hA.lt
    have z2 := hB.lt
    intro us wx hus hC
    obtain ⟨u0, u1, u2, u3, u4, u5, rfl⟩ : ∃ u0 u1 u2 u3 u4 u5, us = [u0, u1, u2, u3, u4, u5] := by
      match us, hus with
      | [u0, u1, u2, u3, u4, u5], _ => exact ⟨u0, u1, u2, u3, u4, u5, rfl⟩
    clear hus
    simp only [fillA, Act.put, List.take_succ_cons, List.take_zero, List.setIfInBounds_toArray, List.set_cons_zero, List.set_cons_succ]
    refine ⟨fun h => ?_, fun h => ?_, fun h => ?_, fun h => ?_, fun h => ?_, fun h => ?_, trivial⟩
    · (clear h; refine good_plain rfl ?_; obtain ⟨hc, hf⟩ := hC.facts; go_simp; exact ⟨Below.refl _ _, rfl⟩)
    · obtain rfl := h 0 rfl
      (clear h; refine good_plain rfl ?_; go_simp; refine (value_Not _ _ _ _).mono ?_; rintro e w1 ⟨rfl, hb⟩; exact ⟨_, rfl, hb, rfl⟩)
    · (clear h; refine good_plain rfl ?_; obtain ⟨hc, hf⟩ := hC.facts; go_simp; exact ⟨Below.refl _ _, rfl⟩)
    · obtain rfl := h 2 rfl
      (clear h; refine good_plain rfl ?_; go_simp; refine (value_Not _ _ _ _).mono ?_; rintro e w1 ⟨rfl, hb⟩; exact ⟨_, rfl, hb, rfl⟩)
    · obtain rfl := h 1 rfl
      obtain rfl := h 3 rfl
      (clear h; refine good_plain rfl ?_; go_simp; refine (value_Both _ _ _ _ _ _ _).mono ?_; rintro e w1 ⟨rfl, hb⟩; exact ⟨_, rfl, hb, by rw [threeN_t (not3_lt _), threeN_t (not3_lt _)]; rfl⟩)
    · obtain rfl := h 4 rfl
      (clear h; refine good_plain rfl ?_; go_simp; refine (value_Not _ _ _ _).mono ?_; rintro e w1 ⟨rfl, hb⟩; exact ⟨_, rfl, hb, by rw [threeN_t (both3_lt _ _), ← either3_eq (threeN_lt _ _) (threeN_lt _ _)]; rfl⟩)
  case hend =>
    intro us wx hus hC
    obtain ⟨u0, u1, u2, u3, u4, u5, rfl⟩ : ∃ u0 u1 u2 u3 u4 u5, us = [u0, u1, u2, u3, u4, u5] := by
      match us, hus with
      | [u0, u1, u2, u3, u4, u5], _ => exact ⟨u0, u1, u2, u3, u4, u5, rfl⟩
    clear hus
    intro hall
    obtain ⟨h0, h1, h2, h3, h4, h5, _⟩ := hall
    obtain rfl := h5
    have hb1 := bel_step hb0 hC.bel hb0.size
    have hR1 := hR.belowS hC.bel
    obtain ⟨r0, r1, r2⟩ := hR1.cells3
    have r3 := hR1.frozen
    clear h0 h1 h2 h3 h4 hA hB hR hC hb0
    go_wp2_with fail
    refine bodyPost_ret (v := .agg #[.int .i64 (tK (either3 (threeN k n) (threeN k' n'))), .int .i64 (tN (either3 (threeN k n) (threeN k' n'))), .string ⟨#[]⟩]) (by simp [results, Try.results45, go_sem, *]) rfl ⟨?_, ?_⟩
    · rfl
    · (repeat (first | exact Below.refl _ _ | (refine Below.setCell ?_ (by first | omega | (simp <;> omega)) _) | refine Below.drew ?_ | (refine Below.alloc ?_ (by first | omega | (simp <;> omega)) _) | (refine bel_step ?_ (by assumption) (by first | omega | (simp <;> omega)))))

theorem below_new (w : World) (o : Obj) : Below w.heap.size w (w.alloc o) := (Below.refl _ _).alloc (Nat.le_refl _) _
theorem either3_lt (t u : Nat) : either3 t u < 3 := by unfold either3; split <;> (try split) <;> omega
/-- a row of the table -/
def RowIs (w : World) (g : Nat) (M : Nat → Nat → Nat) (t : Nat) : Prop := Has w g 3 #[.int .i64 (M t 0 : Nat), .int .i64 (M t 1 : Nat), .int .i64 (M t 2 : Nat)]
def tabP (M : Nat → Nat → Nat) (t t' : Nat) (a b : Value) : Nat → Value → World → Prop
  | 0, u, w => ∃ g, u = .slice (some ⟨g, 0, none⟩) 3 3 ∧ RowIs w g M 0
  | 1, u, w => ∃ g, u = .slice (some ⟨g, 0, none⟩) 3 3 ∧ RowIs w g M 1
  | 2, u, w => ∃ g, u = .slice (some ⟨g, 0, none⟩) 3 3 ∧ RowIs w g M 2
  | 3, u, w => ∃ g g0 g1 g2, u = .slice (some ⟨g, 0, none⟩) 3 3 ∧ Has w g 87 #[.slice (some ⟨g0, 0, none⟩) 3 3, .slice (some ⟨g1, 0, none⟩) 3 3, .slice (some ⟨g2, 0, none⟩) 3 3] ∧ RowIs w g0 M 0 ∧ RowIs w g1 M 1 ∧ RowIs w g2 M 2
  | 4, u, _ => u = a
  | 5, u, _ => u = .int .i64 t
  | 6, u, w => ∃ g g', u = .pointer (some ⟨g, t, none⟩) ∧ g < w.heap.size ∧ w.cell? ⟨g, t, none⟩ = some (.slice (some ⟨g', 0, none⟩) 3 3) ∧ RowIs w g' M t
  | 7, u, w => ∃ g', u = .slice (some ⟨g', 0, none⟩) 3 3 ∧ RowIs w g' M t
  | 8, u, _ => u = b
  | 9, u, _ => u = .int .i64 t'
  | 10, u, w => ∃ g', u = .pointer (some ⟨g', t', none⟩) ∧ g' < w.heap.size ∧ w.cell? ⟨g', t', none⟩ = some (.int .i64 (M t t' : Nat))
  | 11, u, _ => u = .int .i64 (M t t' : Nat)
  | 12, u, _ => u = .agg #[.int .i64 (tK (M t t')), .int .i64 (tN (M t t')), .string ⟨#[]⟩]
  | _, _, _ => True
theorem RowIs.keep {w w' : World} {g : Nat} {M : Nat → Nat → Nat} {t : Nat} (h : RowIs w g M t) (hb : Below w.heap.size w w') : RowIs w' g M t := Has.belowS h hb
theorem tabP_stable (M : Nat → Nat → Nat) (t t' : Nat) (a b : Value) : ∀ j u (w w' : World), Below w.heap.size w w' → tabP M t t' a b j u w → tabP M t t' a b j u w'
  | 0, _, _, _, hb, ⟨g, h, r⟩ => ⟨g, h, r.keep hb⟩
  | 1, _, _, _, hb, ⟨g, h, r⟩ => ⟨g, h, r.keep hb⟩
  | 2, _, _, _, hb, ⟨g, h, r⟩ => ⟨g, h, r.keep hb⟩
  | 3, _, _, _, hb, ⟨g, g0, g1, g2, h, r, r0, r1, r2⟩ => ⟨g, g0, g1, g2, h, r.belowS hb, r0.keep hb, r1.keep hb, r2.keep hb⟩
  | 4, _, _, _, _, h => h
  | 5, _, _, _, _, h => h
  | 6, _, _, _, hb, ⟨g, g', h, hl, hc, r⟩ => ⟨g, g', h, Nat.lt_of_lt_of_le hl hb.size, (hb.cell hl).trans hc, r.keep hb⟩
  | 7, _, _, _, hb, ⟨g, h, r⟩ => ⟨g, h, r.keep hb⟩
  | 8, _, _, _, _, h => h
  | 9, _, _, _, _, h => h
  | 10, _, _, _, hb, ⟨g, h, hl, hc⟩ => ⟨g, h, Nat.lt_of_lt_of_le hl hb.size, (hb.cell hl).trans hc⟩
  | 11, _, _, _, _, h => h
  | 12, _, _, _, _, h => h
  | _ + 13, _, _, _, _, _ => trivial

set_option maxRecDepth 100000 in
set_option maxHeartbeats 1600000 in
theorem ref_Both (k n : Int) (s : ByteArray) (k' n' : Int) (s' : ByteArray) (w : World) : Calls Try.prog 44 #[.agg #[.int .i64 k, .int .i64 n, .string s], .agg #[.int .i64 k', .int .i64 n', .string s']] w fun e w' => e = .returned (.agg #[.int .i64 (tK (both3 (threeN k n) (threeN k' n'))), .int .i64 (tN (both3 (threeN k n) (threeN k' n'))), .string ⟨#[]⟩]) ∧ Below w.heap.size w w' := by
  have ht := threeN_lt k n
  have ht' := threeN_lt k' n'
  have c3 := ref_three k n s
  have c3' := ref_three k' n' s'
  generalize threeN k n = t at *
  generalize threeN k' n' = t' at *
  have C3 := Lib.hid c3; have C3' := Lib.hid c3'
  clear c3 c3'
  have i0 : (0 : Int) ≤ (t : Int) := by omega
  have i1 : (t : Int) < 3 := by omega
  have i0' : (0 : Int) ≤ (t' : Int) := by omega
  have i1' : (t' : Int) < 3 := by omega
  go_enter Try.func44, Try.ntmps44
  go_wp2_with fail
  have hb0 : Below w.heap.size w (((w.alloc (.cells #[.int .i64 k, .int .i64 n, .string s] 29)).alloc (.cells #[.int .i64 k', .int .i64 n', .string s'] 29)).alloc (.cells #[.int .i64 0, .int .i64 0, .string ⟨#[]⟩] 29)) := by (repeat (first | exact Below.refl _ _ | (refine Below.setCell ?_ (by first | omega | (simp <;> omega)) _) | refine Below.drew ?_ | (refine Below.alloc ?_ (by first | omega | (simp <;> omega)) _) | (refine bel_step ?_ (by assumption) (by first | omega | (simp <;> omega)))))
  have hA := (((Has.new w 29 #[.int .i64 k, .int .i64 n, .string s]).alloc (.cells #[.int .i64 k', .int .i64 n', .string s'] 29))).alloc (.cells #[.int .i64 0, .int .i64 0, .string ⟨#[]⟩] 29)
  have hB := (Has.new (w.alloc (.cells #[.int .i64 k, .int .i64 n, .string s] 29)) 29 #[.int .i64 k', .int .i64 n', .string s']).alloc (.cells #[.int .i64 0, .int .i64 0, .string ⟨#[]⟩] 29)
  have hR := Has.new ((w.alloc (.cells #[.int .i64 k, .int .i64 n, .string s] 29)).alloc (.cells #[.int .i64 k', .int .i64 n', .string s'] 29)) 29 #[.int .i64 0, .int .i64 0, .string ⟨#[]⟩]
  simp only [World.size_alloc] at hB hR
  generalize (((w.alloc (.cells #[.int .i64 k, .int .i64 n, .string s] 29)).alloc (.cells #[.int .i64 k', .int .i64 n', .string s'] 29)).alloc (.cells #[.int .i64 0, .int .i64 0, .string ⟨#[]⟩] 29)) = W at *
  refine wp_region_inv 13 (Cls (W)) (tabP both3 t t' (.agg #[.int .i64 k, .int .i64 n, .string s]) (.agg #[.int .i64 k', .int .i64 n', .string s'])) (by kernel_rfl) (by kernel_rfl) (by kernel_rfl) (fun _ _ hC hb => Cls.step hC hb) ?hst (Cls.start _) ?hops ?hend
  case hst => exact tabP_stable _ _ _ _ _
  case hops =>
    obtain ⟨a0, a1, a2⟩ := hA.cells3
    obtain ⟨b0, b1, b2⟩ := hB.cells3
    have z1 := hA.lt
    have z2 := hB.lt
    intro us wx hus hC
    obtain ⟨u0, u1, u2, u3, u4, u5, u6, u7, u8, u9, u10, u11, u12, rfl⟩ : ∃ u0 u1 u2 u3 u4 u5 u6 u7 u8 u9 u10 u11 u12, us = [u0, u1, u2, u3, u4, u5, u6, u7, u8, u9, u10, u11, u12] := by
      match us, hus with
      | [u0, u1, u2, u3, u4, u5, u6, u7, u8, u9, u10, u11, u12], _ => exact ⟨u0, u1, u2, u3, u4, u5, u6, u7, u8, u9, u10, u11, u12, rfl⟩
    clear hus
    simp only [fillA, Act.put, List.take_succ_cons, List.take_zero, List.setIfInBounds_toArray, List.set_cons_zero, List.set_cons_succ]
    refine ⟨fun h => ?_, fun h => ?_, fun h => ?_, fun h => ?_, fun h => ?_, fun h => ?_, fun h => ?_, fun h => ?_, fun h => ?_, fun h => ?_, fun h => ?_, fun h => ?_, fun h => ?_, trivial⟩
    · clear h; refine good_plain rfl ?_; go_simp; exact ⟨below_new _ _, _, rfl, Has.new _ _ _⟩
    · clear h; refine good_plain rfl ?_; go_simp; exact ⟨below_new _ _, _, rfl, Has.new _ _ _⟩
    · clear h; refine good_plain rfl ?_; go_simp; exact ⟨below_new _ _, _, rfl, Has.new _ _ _⟩
    · obtain ⟨g0, rfl, r0⟩ := h 0 rfl
      obtain ⟨g1, rfl, r1⟩ := h 1 rfl
      obtain ⟨g2, rfl, r2⟩ := h 2 rfl
      clear h; refine good_plain rfl ?_; go_simp
      exact ⟨below_new _ _, _, g0, g1, g2, rfl, Has.new _ _ _, r0.keep (below_new _ _), r1.keep (below_new _ _), r2.keep (below_new _ _)⟩
    · (clear h; refine good_plain rfl ?_; obtain ⟨hc, hf⟩ := hC.facts; go_simp; exact ⟨Below.refl _ _, rfl⟩)
    · obtain rfl := h 4 rfl
      (clear h; refine good_plain rfl ?_; go_simp; refine (C3.out _).mono ?_; rintro e w1 ⟨rfl, hb⟩; exact ⟨_, rfl, hb, rfl⟩)
    · obtain ⟨g, g0, g1, g2, rfl, r, r0, r1, r2⟩ := h 3 rfl
      obtain rfl := h 5 rfl
      clear h C3 C3'
      rcases (by omega : t = 0 ∨ t = 1 ∨ t = 2) with rfl | rfl | rfl
      · refine good_plain rfl ?_; go_simp; exact ⟨Below.refl _ _, g, g0, rfl, r.lt, r.cell 0, r0⟩
      · refine good_plain rfl ?_; go_simp; exact ⟨Below.refl _ _, g, g1, rfl, r.lt, r.cell 1, r1⟩
      · refine good_plain rfl ?_; go_simp; exact ⟨Below.refl _ _, g, g2, rfl, r.lt, r.cell 2, r2⟩
    · obtain ⟨g, g', rfl, hl, hcc, r⟩ := h 6 rfl
      clear h; refine good_plain rfl ?_; go_simp; exact ⟨Below.refl _ _, g', rfl, r⟩
    · (clear h; refine good_plain rfl ?_; obtain ⟨hc, hf⟩ := hC.facts; go_simp; exact ⟨Below.refl _ _, rfl⟩)
    · obtain rfl := h 8 rfl
      (clear h; refine good_plain rfl ?_; go_simp; refine (C3'.out _).mono ?_; rintro e w1 ⟨rfl, hb⟩; exact ⟨_, rfl, hb, rfl⟩)
    · obtain ⟨g', rfl, r⟩ := h 7 rfl
      obtain rfl := h 9 rfl
      clear h C3 C3'
      rcases (by omega : t' = 0 ∨ t' = 1 ∨ t' = 2) with rfl | rfl | rfl
      · refine good_plain rfl ?_; go_simp; exact ⟨Below.refl _ _, g', rfl, r.lt, r.cell 0⟩
      · refine good_plain rfl ?_; go_simp; exact ⟨Below.refl _ _, g', rfl, r.lt, r.cell 1⟩
      · refine good_plain rfl ?_; go_simp; exact ⟨Below.refl _ _, g', rfl, r.lt, r.cell 2⟩
    · obtain ⟨g', rfl, hl, hcc⟩ := h 10 rfl
      clear h; refine good_plain rfl ?_; go_simp; exact ⟨Below.refl _ _, rfl⟩
    · obtain rfl := h 11 rfl
      (clear h; refine good_plain rfl ?_; go_simp; refine (ref_told _ (both3_lt _ _) _).mono ?_; rintro e w1 ⟨rfl, hb⟩; exact ⟨_, rfl, hb, rfl⟩)
  case hend =>
    intro us wx hus hC
    obtain ⟨u0, u1, u2, u3, u4, u5, u6, u7, u8, u9, u10, u11, u12, rfl⟩ : ∃ u0 u1 u2 u3 u4 u5 u6 u7 u8 u9 u10 u11 u12, us = [u0, u1, u2, u3, u4, u5, u6, u7, u8, u9, u10, u11, u12] := by
      match us, hus with
      | [u0, u1, u2, u3, u4, u5, u6, u7, u8, u9, u10, u11, u12], _ => exact ⟨u0, u1, u2, u3, u4, u5, u6, u7, u8, u9, u10, u11, u12, rfl⟩
    clear hus
    intro hall
    obtain ⟨h0, h1, h2, h3, h4, h5, h6, h7, h8, h9, h10, h11, h12, _⟩ := hall
    obtain rfl := h12
    have hb1 := bel_step hb0 hC.bel hb0.size
    have hR1 := hR.belowS hC.bel
    obtain ⟨r0, r1, r2⟩ := hR1.cells3
    have r3 := hR1.frozen
    clear h0 h1 h2 h3 h4 h5 h6 h7 h8 h9 h10 h11 hA hB hR hC hb0
    go_wp2_with fail
    refine bodyPost_ret (v := .agg #[.int .i64 (tK (both3 t t')), .int .i64 (tN (both3 t t')), .string ⟨#[]⟩]) (by simp [results, Try.results44, go_sem, *]) rfl ⟨?_, ?_⟩
    · rfl
    · (repeat (first | exact Below.refl _ _ | (refine Below.setCell ?_ (by first | omega | (simp <;> omega)) _) | refine Below.drew ?_ | (refine Below.alloc ?_ (by first | omega | (simp <;> omega)) _) | (refine bel_step ?_ (by assumption) (by first | omega | (simp <;> omega)))))

set_option maxRecDepth 100000 in
set_option maxHeartbeats 1600000 in
theorem ref_Either (k n : Int) (s : ByteArray) (k' n' : Int) (s' : ByteArray) (w : World) : Calls Try.prog 46 #[.agg #[.int .i64 k, .int .i64 n, .string s], .agg #[.int .i64 k', .int .i64 n', .string s']] w fun e w' => e = .returned (.agg #[.int .i64 (tK (either3 (threeN k n) (threeN k' n'))), .int .i64 (tN (either3 (threeN k n) (threeN k' n'))), .string ⟨#[]⟩]) ∧ Below w.heap.size w w' := by
  have ht := threeN_lt k n
  have ht' := threeN_lt k' n'
  have c3 := ref_three k n s
  have c3' := ref_three k' n' s'
  generalize threeN k n = t at *
  generalize threeN k' n' = t' at *
  have C3 := Lib.hid c3; have C3' := Lib.hid c3'
  clear c3 c3'
  have i0 : (0 : Int) ≤ (t : Int) := by omega
  have i1 : (t : Int) < 3 := by omega
  have i0' : (0 : Int) ≤ (t' : Int) := by omega
  have i1' : (t' : Int) < 3 := by omega
  go_enter Try.func46, Try.ntmps46
  go_wp2_with fail
  have hb0 : Below w.heap.size w (((w.alloc (.cells #[.int .i64 k, .int .i64 n, .string s] 29)).alloc (.cells #[.int .i64 k', .int .i64 n', .string s'] 29)).alloc (.cells #[.int .i64 0, .int .i64 0, .string ⟨#[]⟩] 29)) := by (repeat (first | exact Below.refl _ _ | (refine Below.setCell ?_ (by first | omega | (simp <;> omega)) _) | refine Below.drew ?_ | (refine Below.alloc ?_ (by first | omega | (simp <;> omega)) _) | (refine bel_step ?_ (by assumption) (by first | omega | (simp <;> omega)))))
  have hA := (((Has.new w 29 #[.int .i64 k, .int .i64 n, .string s]).alloc (.cells #[.int .i64 k', .int .i64 n', .string s'] 29))).alloc (.cells #[.int .i64 0, .int .i64 0, .string ⟨#[]⟩] 29)
  have hB := (Has.new (w.alloc (.cells #[.int .i64 k, .int .i64 n, .string s] 29)) 29 #[.int .i64 k', .int .i64 n', .string s']).alloc (.cells #[.int .i64 0, .int .i64 0, .string ⟨#[]⟩] 29)
  have hR := Has.new ((w.alloc (.cells #[.int .i64 k, .int .i64 n, .string s] 29)).alloc (.cells #[.int .i64 k', .int .i64 n', .string s'] 29)) 29 #[.int .i64 0, .int .i64 0, .string ⟨#[]⟩]
  simp only [World.size_alloc] at hB hR
  generalize (((w.alloc (.cells #[.int .i64 k, .int .i64 n, .string s] 29)).alloc (.cells #[.int .i64 k', .int .i64 n', .string s'] 29)).alloc (.cells #[.int .i64 0, .int .i64 0, .string ⟨#[]⟩] 29)) = W at *
  refine wp_region_inv 13 (Cls (W)) (tabP either3 t t' (.agg #[.int .i64 k, .int .i64 n, .string s]) (.agg #[.int .i64 k', .int .i64 n', .string s'])) (by kernel_rfl) (by kernel_rfl) (by kernel_rfl) (fun _ _ hC hb => Cls.step hC hb) ?hst (Cls.start _) ?hops ?hend
  case hst => exact tabP_stable _ _ _ _ _
  case hops =>
    obtain ⟨a0, a1, a2⟩ := hA.cells3
    obtain ⟨b0, b1, b2⟩ := hB.cells3
    have z1 := hA.lt
    have z2 := hB.lt
    intro us wx hus hC
    obtain ⟨u0, u1, u2, u3, u4, u5, u6, u7, u8, u9, u10, u11, u12, rfl⟩ : ∃ u0 u1 u2 u3 u4 u5 u6 u7 u8 u9 u10 u11 u12, us = [u0, u1, u2, u3, u4, u5, u6, u7, u8, u9, u10, u11, u12] := by
      match us, hus with
      | [u0, u1, u2, u3, u4, u5, u6, u7, u8, u9, u10, u11, u12], _ => exact ⟨u0, u1, u2, u3, u4, u5, u6, u7, u8, u9, u10, u11, u12, rfl⟩
    clear hus
    simp only [fillA, Act.put, List.take_succ_cons, List.take_zero, List.setIfInBounds_toArray, List.set_cons_zero, List.set_cons_succ]
    refine ⟨fun h => ?_, fun h => ?_, fun h => ?_, fun h => ?_, fun h => ?_, fun h => ?_, fun h => ?_, fun h => ?_, fun h => ?_, fun h => ?_, fun h => ?_, fun h => ?_, fun h => ?_, trivial⟩
    · clear h; refine good_plain rfl ?_; go_simp; exact ⟨below_new _ _, _, rfl, Has.new _ _ _⟩
    · clear h; refine good_plain rfl ?_; go_simp; exact ⟨below_new _ _, _, rfl, Has.new _ _ _⟩
    · clear h; refine good_plain rfl ?_; go_simp; exact ⟨below_new _ _, _, rfl, Has.new _ _ _⟩
    · obtain ⟨g0, rfl, r0⟩ := h 0 rfl
      obtain ⟨g1, rfl, r1⟩ := h 1 rfl
      obtain ⟨g2, rfl, r2⟩ := h 2 rfl
      clear h; refine good_plain rfl ?_; go_simp
      exact ⟨below_new _ _, _, g0, g1, g2, rfl, Has.new _ _ _, r0.keep (below_new _ _), r1.keep (below_new _ _), r2.keep (below_new _ _)⟩
    · (clear h; refine good_plain rfl ?_; obtain ⟨hc, hf⟩ := hC.facts; go_simp; exact ⟨Below.refl _ _, rfl⟩)
    · obtain rfl := h 4 rfl
      (clear h; refine good_plain rfl ?_; go_simp; refine (C3.out _).mono ?_; rintro e w1 ⟨rfl, hb⟩; exact ⟨_, rfl, hb, rfl⟩)
    · obtain ⟨g, g0, g1, g2, rfl, r, r0, r1, r2⟩ := h 3 rfl
      obtain rfl := h 5 rfl
      clear h C3 C3'
      rcases (by omega : t = 0 ∨ t = 1 ∨ t = 2) with rfl | rfl | rfl
      · refine good_plain rfl ?_; go_simp; exact ⟨Below.refl _ _, g, g0, rfl, r.lt, r.cell 0, r0⟩
      · refine good_plain rfl ?_; go_simp; exact ⟨Below.refl _ _, g, g1, rfl, r.lt, r.cell 1, r1⟩
      · refine good_plain rfl ?_; go_simp; exact ⟨Below.refl _ _, g, g2, rfl, r.lt, r.cell 2, r2⟩
    · obtain ⟨g, g', rfl, hl, hcc, r⟩ := h 6 rfl
      clear h; refine good_plain rfl ?_; go_simp; exact ⟨Below.refl _ _, g', rfl, r⟩
    · (clear h; refine good_plain rfl ?_; obtain ⟨hc, hf⟩ := hC.facts; go_simp; exact ⟨Below.refl _ _, rfl⟩)
    · obtain rfl := h 8 rfl
      (clear h; refine good_plain rfl ?_; go_simp; refine (C3'.out _).mono ?_; rintro e w1 ⟨rfl, hb⟩; exact ⟨_, rfl, hb, rfl⟩)
    · obtain ⟨g', rfl, r⟩ := h 7 rfl
      obtain rfl := h 9 rfl
      clear h C3 C3'
      rcases (by omega : t' = 0 ∨ t' = 1 ∨ t' = 2) with rfl | rfl | rfl
      · refine good_plain rfl ?_; go_simp; exact ⟨Below.refl _ _, g', rfl, r.lt, r.cell 0⟩
      · refine good_plain rfl ?_; go_simp; exact ⟨Below.refl _ _, g', rfl, r.lt, r.cell 1⟩
      · refine good_plain rfl ?_; go_simp; exact ⟨Below.refl _ _, g', rfl, r.lt, r.cell 2⟩
    · obtain ⟨g', rfl, hl, hcc⟩ := h 10 rfl
      clear h; refine good_plain rfl ?_; go_simp; exact ⟨Below.refl _ _, rfl⟩
    · obtain rfl := h 11 rfl
      (clear h; refine good_plain rfl ?_; go_simp; refine (ref_told _ (either3_lt _ _) _).mono ?_; rintro e w1 ⟨rfl, hb⟩; exact ⟨_, rfl, hb, rfl⟩)
  case hend =>
    intro us wx hus hC
    obtain ⟨u0, u1, u2, u3, u4, u5, u6, u7, u8, u9, u10, u11, u12, rfl⟩ : ∃ u0 u1 u2 u3 u4 u5 u6 u7 u8 u9 u10 u11 u12, us = [u0, u1, u2, u3, u4, u5, u6, u7, u8, u9, u10, u11, u12] := by
      match us, hus with
      | [u0, u1, u2, u3, u4, u5, u6, u7, u8, u9, u10, u11, u12], _ => exact ⟨u0, u1, u2, u3, u4, u5, u6, u7, u8, u9, u10, u11, u12, rfl⟩
    clear hus
    intro hall
    obtain ⟨h0, h1, h2, h3, h4, h5, h6, h7, h8, h9, h10, h11, h12, _⟩ := hall
    obtain rfl := h12
    have hb1 := bel_step hb0 hC.bel hb0.size
    have hR1 := hR.belowS hC.bel
    obtain ⟨r0, r1, r2⟩ := hR1.cells3
    have r3 := hR1.frozen
    clear h0 h1 h2 h3 h4 h5 h6 h7 h8 h9 h10 h11 hA hB hR hC hb0
    go_wp2_with fail
    refine bodyPost_ret (v := .agg #[.int .i64 (tK (either3 t t')), .int .i64 (tN (either3 t t')), .string ⟨#[]⟩]) (by simp [results, Try.results46, go_sem, *]) rfl ⟨?_, ?_⟩
    · rfl
    · (repeat (first | exact Below.refl _ _ | (refine Below.setCell ?_ (by first | omega | (simp <;> omega)) _) | refine Below.drew ?_ | (refine Below.alloc ?_ (by first | omega | (simp <;> omega)) _) | (refine bel_step ?_ (by assumption) (by first | omega | (simp <;> omega)))))


end Go.Proofs.Ytlkkpgdgnnknpaa
