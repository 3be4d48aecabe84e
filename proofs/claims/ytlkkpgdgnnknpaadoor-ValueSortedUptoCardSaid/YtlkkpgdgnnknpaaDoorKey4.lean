/-
  The scanner's one value; Unkey of package value.
-/
import Derived.Test.YtlkkpgdgnnknpaaDoorKey3
namespace Go.Proofs.YtlkkpgdgnnknpaaDoor
open Go.RowKit
open Go.BigFrame
set_option linter.unusedVariables false
set_option linter.unusedSimpArgs false

def OnePost (w : World) (g : Nat) (l : List UInt8) (e : Ending) (w' : World) : Prop :=
  ∃ (v : Val) (rest : List UInt8) (bad : Bool), e = .returned (.agg #[.int .i64 v.k, .int .i64 v.n, .string v.s]) ∧ Sc w' g rest bad ∧ w.grownBy w' (some g) ∧ (bad = false → oneK l = some (v, rest)) ∧ (bad = true → oneK l = none)
/-- the scanner, and the box of the result -/
structure On (w0 : World) (g : Nat) (w : World) (l : List UInt8) (bad : Bool) (x y z : Value) : Prop where
  sc : Sc w g l bad
  box : Has w w0.heap.size 38 #[x, y, z]
  grown : w0.grownBy w (some g)
  low : g < w0.heap.size
section
variable {w0 w w' : World} {g : Nat} {l l' : List UInt8} {bad bad' : Bool} {x y z : Value}
theorem On.scan (h : On w0 g w l bad x y z) (h1 : Sc w' g l' bad') (h2 : w.grownBy w' (some g)) : On w0 g w' l' bad' x y z :=
  ⟨h1, h.box.grown h2 (fun e => by have := Option.some.inj e; have := h.low; omega), grownBy_trans h.grown h2, h.low⟩
theorem On.step (h : On w0 g w l bad x y z) (hb : Below w.heap.size w w') : On w0 g w' l bad x y z :=
  ⟨h.sc.belowS hb, h.box.belowS hb, grownBy_trans h.grown (below_grownBy hb), h.low⟩
theorem On.put (h : On w0 g w l bad x y z) (x' y' z' : Value) : On w0 g (((w.setCell ⟨w0.heap.size, 0, none⟩ x').setCell ⟨w0.heap.size, 1, none⟩ y').setCell ⟨w0.heap.size, 2, none⟩ z') l bad x' y' z' := by
  have hne : g ≠ w0.heap.size := by have := h.low; omega
  refine ⟨((h.sc.far (p := ⟨w0.heap.size, 0, none⟩) hne _).far (p := ⟨w0.heap.size, 1, none⟩) hne _).far (p := ⟨w0.heap.size, 2, none⟩) hne _, h.box.set3, ?_, h.low⟩
  exact grown_then (grown_then (grown_then h.grown (grownBy_setCell _ _) (fun j hj => by cases hj; exact Nat.le_refl _)) (grownBy_setCell _ _) (fun j hj => by cases hj; exact Nat.le_refl _)) (grownBy_setCell _ _) (fun j hj => by cases hj; exact Nat.le_refl _)
theorem On.setBad (h : On w0 g w l bad x y z) (b : Bool) : On w0 g (w.setCell ⟨g, 1, none⟩ (.bool b)) l b x y z := h.scan (h.sc.set 1 (.bool b)) (grownBy_setCell _ _)
end
theorem On.start {w : World} {g : Nat} {l : List UInt8} (h : Sc w g l false) : On w g (w.alloc (.cells #[.int .i64 0, .int .i64 0, .string ⟨#[]⟩] 38)) l false (.int .i64 0) (.int .i64 0) (.string ⟨#[]⟩) :=
  ⟨h.belowS ((Below.refl _ _).alloc (Nat.le_refl _) _), Has.new _ _ _, World.grownBy_alloc _ _ _, h.lt⟩

set_option maxRecDepth 100000 in
set_option maxHeartbeats 6400000 in
theorem scan_one (g : Nat) (k : UInt8) (r : List UInt8) (w : World) (h : Sc w g (k :: r) false) (hl : r.length ≤ 50000000) :
    Calls Tryd.prog 31 #[.pointer (some ⟨g, 0, none⟩)] w (OnePost w g (k :: r)) := by
  have H0 := Lib.hid (On.start h)
  have hkb := byte_lt k
  have TB : Hid (∀ w1, Sc w1 g (k :: r) false → Calls Tryd.prog 46 #[.pointer (some ⟨g, 0, none⟩)] w1 (ScPost w1 g (.int .i64 (k.toNat : Nat)) r false)) := fun w1 h1 => scan_byte g (k :: r) false w1 h1 (by simp; omega)
  have TE := Lib.hid (fun w1 (h1 : Sc w1 g r false) => scan_escaped g r w1 h1 hl)
  have TL := Lib.hid (fun w1 (h1 : Sc w1 g r false) => scan_long g r false w1 h1 (by omega))
  have HL := Lib.hid hl
  clear h hl
  by_cases kk : k.toNat = 1
  · have KK := Lib.hid kk
    rw [kk] at TB
    rw [show ((1 : Nat) : Int) = 1 from rfl] at TB
    have GD := Lib.hid (show oneK (k :: r) = some (⟨0, 0, ⟨#[]⟩⟩, r) by rw [oneK, if_pos KK.out])
    clear kk hkb
    go_enter Tryd.func31, Tryd.ntmps31
    go_wp2_with (first | (go_at_call 46; (refine (TB.out _ H0.out.sc).mono ?_); rintro e w1 ⟨rfl, hsa, hga⟩; have H1 := Lib.hid (H0.out.scan hsa hga); clear hsa hga) | (go_at_call 47; (refine (value_None _).mono ?_); rintro e w2 ⟨rfl, hbm⟩; have H2 := Lib.hid (H1.out.step hbm); clear hbm; obtain ⟨d0, d1, d2⟩ := H2.out.box.cells3; have df := H2.out.box.frozen; have dz := H2.out.box.lt))
    refine bodyPost_ret (results_cell_row rfl _ _ w.heap.size 38 _ (0, 0) _ rfl (H2.out.put (.int .i64 (0)) (.int .i64 (0)) (.string (⟨#[]⟩))).box Tryd.underlying38 rfl (by kernel_rfl)) rfl ?_
    exact ⟨⟨0, 0, ⟨#[]⟩⟩, r, false, rfl, (H2.out.put _ _ _).sc, (H2.out.put _ _ _).grown, (fun _ => GD.out), (fun h => by cases h)⟩
  have k1 := kk
  clear kk
  by_cases kk : k.toNat = 2
  · have KK := Lib.hid kk
    rw [kk] at TB
    rw [show ((2 : Nat) : Int) = 2 from rfl] at TB
    have GD := Lib.hid (show oneK (k :: r) = some (⟨1, 0, ⟨#[]⟩⟩, r) by rw [oneK, if_neg (by rw [KK.out]; decide), if_pos KK.out])
    clear kk hkb
    go_enter Tryd.func31, Tryd.ntmps31
    go_wp2_with (first | (go_at_call 46; (refine (TB.out _ H0.out.sc).mono ?_); rintro e w1 ⟨rfl, hsa, hga⟩; have H1 := Lib.hid (H0.out.scan hsa hga); clear hsa hga) | (go_at_call 48; (refine (value_Flag false _).mono ?_); rintro e w2 ⟨rfl, hbm⟩; have H2 := Lib.hid (H1.out.step hbm); clear hbm; obtain ⟨d0, d1, d2⟩ := H2.out.box.cells3; have df := H2.out.box.frozen; have dz := H2.out.box.lt))
    refine bodyPost_ret (results_cell_row rfl _ _ w.heap.size 38 _ (0, 0) _ rfl (H2.out.put (.int .i64 (1)) (.int .i64 (0)) (.string (⟨#[]⟩))).box Tryd.underlying38 rfl (by kernel_rfl)) rfl ?_
    exact ⟨⟨1, 0, ⟨#[]⟩⟩, r, false, rfl, (H2.out.put _ _ _).sc, (H2.out.put _ _ _).grown, (fun _ => GD.out), (fun h => by cases h)⟩
  have k2 := kk
  clear kk
  by_cases kk : k.toNat = 3
  · have KK := Lib.hid kk
    rw [kk] at TB
    rw [show ((3 : Nat) : Int) = 3 from rfl] at TB
    have GD := Lib.hid (show oneK (k :: r) = some (⟨1, 1, ⟨#[]⟩⟩, r) by rw [oneK, if_neg (by rw [KK.out]; decide), if_neg (by rw [KK.out]; decide), if_pos KK.out])
    clear kk hkb
    go_enter Tryd.func31, Tryd.ntmps31
    go_wp2_with (first | (go_at_call 46; (refine (TB.out _ H0.out.sc).mono ?_); rintro e w1 ⟨rfl, hsa, hga⟩; have H1 := Lib.hid (H0.out.scan hsa hga); clear hsa hga) | (go_at_call 48; (refine (value_Flag true _).mono ?_); rintro e w2 ⟨rfl, hbm⟩; have H2 := Lib.hid (H1.out.step hbm); clear hbm; obtain ⟨d0, d1, d2⟩ := H2.out.box.cells3; have df := H2.out.box.frozen; have dz := H2.out.box.lt))
    refine bodyPost_ret (results_cell_row rfl _ _ w.heap.size 38 _ (0, 0) _ rfl (H2.out.put (.int .i64 (1)) (.int .i64 (1)) (.string (⟨#[]⟩))).box Tryd.underlying38 rfl (by kernel_rfl)) rfl ?_
    exact ⟨⟨1, 1, ⟨#[]⟩⟩, r, false, rfl, (H2.out.put _ _ _).sc, (H2.out.put _ _ _).grown, (fun _ => GD.out), (fun h => by cases h)⟩
  have k3 := kk
  clear kk
  by_cases kk : k.toNat = 4
  · have KK := Lib.hid kk
    rw [kk] at TB
    rw [show ((4 : Nat) : Int) = 4 from rfl] at TB
    obtain ⟨X, hX⟩ : ∃ X, unK (takN 8 r) = X := ⟨_, rfl⟩
    have lX : X < 18446744073709551616 := by
      rw [← hX]; unfold takN
      split
      · rename_i h8
        exact Nat.lt_of_lt_of_eq (unK_lt 8 (r.take 8) (by rw [List.length_take]; omega)) (by decide)
      · decide
    obtain ⟨Y, hY⟩ : ∃ Y, (X + 9223372036854775808) % 18446744073709551616 = Y := ⟨_, rfl⟩
    have lY : Y < 18446744073709551616 := hY ▸ mod_top _
    have xX := keyN_back lX
    have wY := (s64_wrap lY).symm
    obtain ⟨Z, hZ⟩ : ∃ Z, s64 Y = Z := ⟨_, rfl⟩
    rw [hY] at xX
    rw [hZ] at wY
    rw [hX] at TL
    have GD := Lib.hid (show badN false 8 r = false → oneK (k :: r) = some (⟨2, Z, ⟨#[]⟩⟩, drN 8 r) from fun hb => by
      have h8 : 8 ≤ r.length := by
        unfold badN at hb
        by_cases h : 8 ≤ r.length
        · exact h
        · rw [if_neg h] at hb; cases hb
      unfold takN at hX
      rw [if_pos h8] at hX
      unfold drN
      rw [oneK, if_neg (by rw [KK.out]; decide), if_neg (by rw [KK.out]; decide), if_neg (by rw [KK.out]; decide), if_pos KK.out, if_pos h8, if_pos h8, hX, hY, hZ])
    have BD := Lib.hid (show badN false 8 r = true → oneK (k :: r) = none from fun hb => by
      have h8 : ¬ 8 ≤ r.length := by
        intro h
        unfold badN at hb
        rw [if_pos h] at hb; cases hb
      rw [oneK, if_neg (by rw [KK.out]; decide), if_neg (by rw [KK.out]; decide), if_neg (by rw [KK.out]; decide), if_pos KK.out, if_neg h8])
    have T2 := Lib.hid (fun w1 => value_Of Z w1)
    clear kk hkb hX lX hY lY hZ k1 k2 k3
    go_enter Tryd.func31, Tryd.ntmps31
    go_wp2_with (first | (go_at_call 46; (refine (TB.out _ H0.out.sc).mono ?_); rintro e w1 ⟨rfl, hsa, hga⟩; have H1 := Lib.hid (H0.out.scan hsa hga); clear hsa hga) | (go_at_call 50; (refine (TL.out _ H1.out.sc).mono ?_); rintro e w3 ⟨rfl, hsa, hga⟩; have H3 := Lib.hid (H1.out.scan hsa hga); clear hsa hga) | (go_at_call 49; (refine (T2.out _).mono ?_); rintro e w2 ⟨rfl, hbm⟩; have H2 := Lib.hid (H3.out.step hbm); clear hbm; obtain ⟨d0, d1, d2⟩ := H2.out.box.cells3; have df := H2.out.box.frozen; have dz := H2.out.box.lt))
    refine bodyPost_ret (results_cell_row rfl _ _ w.heap.size 38 _ (0, 0) _ rfl (H2.out.put (.int .i64 (2)) (.int .i64 (Z)) (.string (⟨#[]⟩))).box Tryd.underlying38 rfl (by kernel_rfl)) rfl ?_
    exact ⟨⟨2, Z, ⟨#[]⟩⟩, drN 8 r, badN false 8 r, rfl, (H2.out.put _ _ _).sc, (H2.out.put _ _ _).grown, GD.out, BD.out⟩
  have k4 := kk
  clear kk
  by_cases kk : k.toNat = 5
  · have KK := Lib.hid kk
    rw [kk] at TB
    rw [show ((5 : Nat) : Int) = 5 from rfl] at TB
    have OK5 := Lib.hid (show oneK (k :: r) = (unesc r).map (fun x => (⟨3, 0, bsOf x.1⟩, x.2)) by rw [oneK, if_neg k1, if_neg k2, if_neg k3, if_neg k4, if_pos KK.out])
    clear kk hkb k1 k2 k3 k4
    go_enter Tryd.func31, Tryd.ntmps31
    go_wp2_with (first | (go_at_call 46; (refine (TB.out _ H0.out.sc).mono ?_); rintro e w1 ⟨rfl, hsa, hga⟩; have H1 := Lib.hid (H0.out.scan hsa hga); clear hsa hga) | (go_at_call 58; (refine (TE.out _ H1.out.sc).mono ?_); rintro e w3 ⟨t, rest, bad, rfl, hsa, hga, hg, hb⟩; have H3 := Lib.hid (H1.out.scan hsa hga); have GD := Lib.hid hg; have BD := Lib.hid hb; clear hsa hga hg hb) | (go_at_call 51; (refine (value_Str _ _).mono ?_); rintro e w2 ⟨rfl, hbm⟩; have H2 := Lib.hid (H3.out.step hbm); clear hbm; obtain ⟨d0, d1, d2⟩ := H2.out.box.cells3; have df := H2.out.box.frozen; have dz := H2.out.box.lt))
    refine bodyPost_ret (results_cell_row rfl _ _ w.heap.size 38 _ (0, 0) _ rfl (H2.out.put (.int .i64 (3)) (.int .i64 (0)) (.string (bsOf t))).box Tryd.underlying38 rfl (by kernel_rfl)) rfl ?_
    exact ⟨⟨3, 0, bsOf t⟩, rest, bad, rfl, (H2.out.put _ _ _).sc, (H2.out.put _ _ _).grown, (fun h => by rw [OK5.out, GD.out h]; rfl), (fun h => by rw [OK5.out, BD.out h]; rfl)⟩
  have GD := Lib.hid (show oneK (k :: r) = none by rw [oneK, if_neg k1, if_neg k2, if_neg k3, if_neg k4, if_neg kk])
  obtain ⟨x, hx⟩ : ∃ x, k.toNat = x := ⟨_, rfl⟩
  rw [hx] at TB k1 k2 k3 k4 kk
  have e1 : ((x : Int) == 1) = false := by rw [beq_eq_false_iff_ne]; omega
  have e2 : ((x : Int) == 2) = false := by rw [beq_eq_false_iff_ne]; omega
  have e3 : ((x : Int) == 3) = false := by rw [beq_eq_false_iff_ne]; omega
  have e4 : ((x : Int) == 4) = false := by rw [beq_eq_false_iff_ne]; omega
  have e5 : ((x : Int) == 5) = false := by rw [beq_eq_false_iff_ne]; omega
  clear hx k1 k2 k3 k4 kk hkb
  go_enter Tryd.func31, Tryd.ntmps31
  go_wp2_with (first | (go_at_call 46; (refine (TB.out _ H0.out.sc).mono ?_); rintro e w1 ⟨rfl, hsa, hga⟩; have H1 := Lib.hid (H0.out.scan hsa hga); obtain ⟨c0, c1⟩ := hsa.cells2; have cf := hsa.frozen; have cz := hsa.lt; have H3 := Lib.hid (H1.out.setBad true); clear hsa hga) | (go_at_call 47; (refine (value_None _).mono ?_); rintro e w2 ⟨rfl, hbm⟩; have H2 := Lib.hid (H3.out.step hbm); clear hbm; obtain ⟨d0, d1, d2⟩ := H2.out.box.cells3; have df := H2.out.box.frozen; have dz := H2.out.box.lt))
  refine bodyPost_ret (results_cell_row rfl _ _ w.heap.size 38 _ (0, 0) _ rfl (H2.out.put (.int .i64 (0)) (.int .i64 (0)) (.string (⟨#[]⟩))).box Tryd.underlying38 rfl (by kernel_rfl)) rfl ?_
  exact ⟨⟨0, 0, ⟨#[]⟩⟩, r, true, rfl, (H2.out.put _ _ _).sc, (H2.out.put _ _ _).grown, (fun h => by cases h), (fun _ => GD.out)⟩

end Go.Proofs.YtlkkpgdgnnknpaaDoor
