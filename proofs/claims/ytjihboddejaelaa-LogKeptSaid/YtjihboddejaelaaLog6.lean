/-
  tell of package wal: what it hands on to done.
-/
import Derived.Test.YtjihboddejaelaaLog5
import Derived.Deep.RegionHeld3
namespace Go.Proofs.Ytjihboddejaelaa
open Go.RowKit
open Go.BigFrame
open Go.Maps
set_option linter.unusedVariables false
set_option linter.unusedSimpArgs false

/-- the disk may bear some more operations -/
structure Fit (D : Dk) (k : Nat) : Prop where
  ok : D.ok
  count : D.count + k ≤ 4000000000000000000
  waits : D.waits.length + k ≤ 1000000000
/-- what tell's functions captured -/
structure TellBox (w : World) (g bl bs bn bf bp : Nat) (slot n f p : Nat) : Prop where
  l : Has w bl 36 #[.pointer (some ⟨g, 0, none⟩)]
  s : Has w bs 3 #[.int .i64 slot]
  n : Has w bn 3 #[.int .i64 n]
  f : Has w bf 3 #[.int .i64 f]
  p : Has w bp 3 #[.int .i64 p]
theorem TellBox.below {w w' : World} {g bl bs bn bf bp slot n f p : Nat} (h : TellBox w g bl bs bn bf bp slot n f p) (hb : Below w.heap.size w w') : TellBox w' g bl bs bn bf bp slot n f p :=
  ⟨h.l.belowS hb, h.s.belowS hb, h.n.belowS hb, h.f.belowS hb, h.p.belowS hb⟩
theorem TellBox.cells {w : World} {g bl bs bn bf bp slot n f p : Nat} (h : TellBox w g bl bs bn bf bp slot n f p) :
    w.cell? ⟨bl, 0, none⟩ = some (.pointer (some ⟨g, 0, none⟩)) ∧ w.cell? ⟨bs, 0, none⟩ = some (.int .i64 slot) ∧ w.cell? ⟨bn, 0, none⟩ = some (.int .i64 n) ∧ w.cell? ⟨bf, 0, none⟩ = some (.int .i64 f) ∧ w.cell? ⟨bp, 0, none⟩ = some (.int .i64 p) :=
  ⟨h.l.cell 0, h.s.cell 0, h.n.cell 0, h.f.cell 0, h.p.cell 0⟩
def boxOff (bl bs bn bf bp : Nat) (b : List (Option Nat)) : Prop := some bl ∉ b ∧ some bs ∉ b ∧ some bn ∉ b ∧ some bf ∉ b ∧ some bp ∉ b
theorem TellBox.turn {w w' : World} {b b' : List (Option Nat)} {g bl bs bn bf bp slot n f p : Nat} (h : TellBox w g bl bs bn bf bp slot n f p) (ht : Turn b b' w w') (ho : boxOff bl bs bn bf bp b) : TellBox w' g bl bs bn bf bp slot n f p :=
  ⟨h.l.turn ht ho.1, h.s.turn ht ho.2.1, h.n.turn ht ho.2.2.1, h.f.turn ht ho.2.2.2.1, h.p.turn ht ho.2.2.2.2⟩
theorem LR.cell0 {w : World} {b : List (Option Nat)} {gd g m1 m2 : Nat} {R : Rw} (h : LR w b gd g m1 m2 R) : w.cell? ⟨g, 0, none⟩ = some (.pointer (some ⟨gd, 0, none⟩)) := h.has.cell 0

set_option maxRecDepth 100000 in
set_option maxHeartbeats 3200000 in
theorem wal_tell1 (b : List (Option Nat)) (gd g m1 m2 : Nat) (R : Rw) (bl bs bn bf bp slot n f p : Nat) (w : World) (h : LR w b gd g m1 m2 R) (hx : TellBox w g bl bs bn bf bp slot n f p) (ho : boxOff bl bs bn bf bp b) (hfit : Fit R.D 1) (hs : slot < 2) (hn : n ≤ 4611686018427387904) (hf : f ≤ 4611686018427387904) (hp : p ≤ 4611686018427387904) :
    Calls Try.prog 108 #[.pointer (some ⟨bl, 0, none⟩), .pointer (some ⟨bs, 0, none⟩), .pointer (some ⟨bn, 0, none⟩), .pointer (some ⟨bf, 0, none⟩), .pointer (some ⟨bp, 0, none⟩)] w
      (DPost w b gd (R.D.write 1 (16 + 24 * slot : Nat) (bsOf (slotL n f p))) (.int .i64 (R.D.writeE 1 (16 + 24 * slot : Nat) (bsOf (slotL n f p))))) := by
  have ST := Lib.hid (wal_slotText n f p hn hf hp)
  have TP := Lib.hid (fun b1 w1 (h1 : DP w1 b1 gd R.D) => disk_Write gd R.D b1 1 (16 + 24 * slot : Nat) (bsOf (slotL n f p)) w1 h1 hfit.ok (by have := hfit.count; omega) (by have := hfit.waits; omega) (by rw [bsOf_size, slotL_len]; omega))
  obtain ⟨S, hS⟩ : ∃ S, bsOf (slotL n f p) = S := ⟨_, rfl⟩
  rw [hS] at ST TP ⊢
  obtain ⟨E, hE⟩ : ∃ x, R.D.writeE 1 (16 + 24 * slot : Nat) S = x := ⟨_, rfl⟩
  obtain ⟨D', hD⟩ : ∃ x, R.D.write 1 (16 + 24 * slot : Nat) S = x := ⟨_, rfl⟩
  rw [hE, hD] at TP ⊢
  have HL := Lib.hid (h.below (Below.refl _ _).drew)
  have HX := Lib.hid (hx.below (Below.refl _ _).drew)
  have HB := Lib.hid ((Below.refl w.heap.size w).drew)
  obtain ⟨x0, x1, x2, x3, x4⟩ := hx.cells
  have x5 := h.cell0
  have HO := Lib.hid ho
  clear hS hE hD h hx hfit ho
  obtain rfl | rfl : slot = 0 ∨ slot = 1 := by omega
  · rw [show ((0 : Nat) : Int) = 0 from rfl] at x1
    rw [show (((16 + 24 * 0 : Nat)) : Int) = IntKind.i64.wrap (16 + IntKind.i64.wrap 0) by decide] at TP
    go_enter Try.func108, Try.ntmps108
    go_wp2_with fail
    go_region_held3 (fun w' => w'.cell? ⟨bl, 0, none⟩ = some (.pointer (some ⟨g, 0, none⟩)) ∧ w'.cell? ⟨bs, 0, none⟩ = some (.int .i64 0) ∧ w'.cell? ⟨bn, 0, none⟩ = some (.int .i64 n) ∧ w'.cell? ⟨bf, 0, none⟩ = some (.int .i64 f) ∧ w'.cell? ⟨bp, 0, none⟩ = some (.int .i64 p) ∧ w'.cell? ⟨g, 0, none⟩ = some (.pointer (some ⟨gd, 0, none⟩))) (first | exact ⟨z0, z1, z2, z3, z4, z5⟩ | exact ⟨y0, y1, y2, y3, y4, y5⟩ | go_keep)
      (first | (go_at_call 106; (with_reducible refine (ST.out _).mono ?_); rintro e w1 ⟨rfl, hb1⟩; have H1 := Lib.hid (HL.out.below hb1); have HB1 := Lib.hid (bel_step HB.out hb1 HB.out.size); obtain ⟨y0, y1, y2, y3, y4⟩ := (HX.out.below hb1).cells; have y5 := H1.out.cell0) | (go_at_call 51; (with_reducible refine (TP.out _ _ H1.out.disk).mono ?_); rintro e w2 ⟨rfl, b2, hd2, ht2⟩; have HD := Lib.hid hd2; have HT := Lib.hid ht2; obtain ⟨z0, z1, z2, z3, z4⟩ := ((HX.out.below hb1).turn ht2 HO.out).cells; have z5 := (H1.out.onDisk hd2 ht2).1.cell0; clear hd2 ht2 hb1))
    go_wp2_with fail
    go_ret
    exact ⟨rfl, b2, HD.out, (Turn.below b HB1.out).trans HT.out⟩
  · rw [show ((1 : Nat) : Int) = 1 from rfl] at x1
    rw [show (((16 + 24 * 1 : Nat)) : Int) = IntKind.i64.wrap (16 + IntKind.i64.wrap 24) by decide] at TP
    go_enter Try.func108, Try.ntmps108
    go_wp2_with fail
    go_region_held3 (fun w' => w'.cell? ⟨bl, 0, none⟩ = some (.pointer (some ⟨g, 0, none⟩)) ∧ w'.cell? ⟨bs, 0, none⟩ = some (.int .i64 1) ∧ w'.cell? ⟨bn, 0, none⟩ = some (.int .i64 n) ∧ w'.cell? ⟨bf, 0, none⟩ = some (.int .i64 f) ∧ w'.cell? ⟨bp, 0, none⟩ = some (.int .i64 p) ∧ w'.cell? ⟨g, 0, none⟩ = some (.pointer (some ⟨gd, 0, none⟩))) (first | exact ⟨z0, z1, z2, z3, z4, z5⟩ | exact ⟨y0, y1, y2, y3, y4, y5⟩ | go_keep)
      (first | (go_at_call 106; (with_reducible refine (ST.out _).mono ?_); rintro e w1 ⟨rfl, hb1⟩; have H1 := Lib.hid (HL.out.below hb1); have HB1 := Lib.hid (bel_step HB.out hb1 HB.out.size); obtain ⟨y0, y1, y2, y3, y4⟩ := (HX.out.below hb1).cells; have y5 := H1.out.cell0) | (go_at_call 51; (with_reducible refine (TP.out _ _ H1.out.disk).mono ?_); rintro e w2 ⟨rfl, b2, hd2, ht2⟩; have HD := Lib.hid hd2; have HT := Lib.hid ht2; obtain ⟨z0, z1, z2, z3, z4⟩ := ((HX.out.below hb1).turn ht2 HO.out).cells; have z5 := (H1.out.onDisk hd2 ht2).1.cell0; clear hd2 ht2 hb1))
    go_wp2_with fail
    go_ret
    exact ⟨rfl, b2, HD.out, (Turn.below b HB1.out).trans HT.out⟩

set_option maxRecDepth 100000 in
set_option maxHeartbeats 800000 in
theorem wal_begin2 (b : List (Option Nat)) (gd g m1 m2 : Nat) (R : Rw) (bl : Nat) (w : World) (h : LR w b gd g m1 m2 R) (hx : Has w bl 36 #[.pointer (some ⟨g, 0, none⟩)]) (hfit : Fit R.D 1) :
    Calls Try.prog 104 #[.pointer (some ⟨bl, 0, none⟩)] w (DPost w b gd (R.D.sync 1) (.int .i64 (R.D.syncE 1))) := by
  have TP := Lib.hid (fun b1 w1 (h1 : DP w1 b1 gd R.D) => disk_Sync gd R.D b1 1 w1 h1 hfit.ok (by have := hfit.count; omega) (by have := hfit.waits; omega))
  obtain ⟨E, hE⟩ : ∃ x, R.D.syncE 1 = x := ⟨_, rfl⟩
  obtain ⟨D', hD⟩ : ∃ x, R.D.sync 1 = x := ⟨_, rfl⟩
  rw [hE, hD] at TP ⊢
  have HL := Lib.hid h
  have x0 := hx.cell 0
  have x1 := h.cell0
  clear hE hD h hx hfit
  go_enter Try.func104, Try.ntmps104
  go_wp2_with (go_at_call 57; (with_reducible refine (TP.out _ _ HL.out.disk).mono ?_); rintro e w2 ⟨rfl, hd2⟩; have HD := Lib.hid hd2; clear hd2)
  go_ret
  exact ⟨rfl, HD.out⟩

set_option maxRecDepth 100000 in
set_option maxHeartbeats 800000 in
theorem wal_begin4 (b : List (Option Nat)) (gd g m1 m2 : Nat) (R : Rw) (bl : Nat) (w : World) (h : LR w b gd g m1 m2 R) (hx : Has w bl 36 #[.pointer (some ⟨g, 0, none⟩)]) (hfit : Fit R.D 1) :
    Calls Try.prog 107 #[.pointer (some ⟨bl, 0, none⟩)] w (DPost w b gd (R.D.sync 1) (.int .i64 (R.D.syncE 1))) := by
  have TP := Lib.hid (fun b1 w1 (h1 : DP w1 b1 gd R.D) => disk_Sync gd R.D b1 1 w1 h1 hfit.ok (by have := hfit.count; omega) (by have := hfit.waits; omega))
  obtain ⟨E, hE⟩ : ∃ x, R.D.syncE 1 = x := ⟨_, rfl⟩
  obtain ⟨D', hD⟩ : ∃ x, R.D.sync 1 = x := ⟨_, rfl⟩
  rw [hE, hD] at TP ⊢
  have HL := Lib.hid h
  have x0 := hx.cell 0
  have x1 := h.cell0
  clear hE hD h hx hfit
  go_enter Try.func107, Try.ntmps107
  go_wp2_with (go_at_call 57; (with_reducible refine (TP.out _ _ HL.out.disk).mono ?_); rintro e w2 ⟨rfl, hd2⟩; have HD := Lib.hid hd2; clear hd2)
  go_ret
  exact ⟨rfl, HD.out⟩

set_option maxRecDepth 100000 in
set_option maxHeartbeats 800000 in
theorem wal_tell2 (b : List (Option Nat)) (gd g m1 m2 : Nat) (R : Rw) (bl : Nat) (w : World) (h : LR w b gd g m1 m2 R) (hx : Has w bl 36 #[.pointer (some ⟨g, 0, none⟩)]) (hfit : Fit R.D 1) :
    Calls Try.prog 109 #[.pointer (some ⟨bl, 0, none⟩)] w (DPost w b gd (R.D.sync 1) (.int .i64 (R.D.syncE 1))) := by
  have TP := Lib.hid (fun b1 w1 (h1 : DP w1 b1 gd R.D) => disk_Sync gd R.D b1 1 w1 h1 hfit.ok (by have := hfit.count; omega) (by have := hfit.waits; omega))
  obtain ⟨E, hE⟩ : ∃ x, R.D.syncE 1 = x := ⟨_, rfl⟩
  obtain ⟨D', hD⟩ : ∃ x, R.D.sync 1 = x := ⟨_, rfl⟩
  rw [hE, hD] at TP ⊢
  have HL := Lib.hid h
  have x0 := hx.cell 0
  have x1 := h.cell0
  clear hE hD h hx hfit
  go_enter Try.func109, Try.ntmps109
  go_wp2_with (go_at_call 57; (with_reducible refine (TP.out _ _ HL.out.disk).mono ?_); rintro e w2 ⟨rfl, hd2⟩; have HD := Lib.hid hd2; clear hd2)
  go_ret
  exact ⟨rfl, HD.out⟩

set_option maxRecDepth 100000 in
set_option maxHeartbeats 800000 in
theorem wal_Commit2 (b : List (Option Nat)) (gd g m1 m2 : Nat) (R : Rw) (bl : Nat) (w : World) (h : LR w b gd g m1 m2 R) (hx : Has w bl 36 #[.pointer (some ⟨g, 0, none⟩)]) (hfit : Fit R.D 1) :
    Calls Try.prog 70 #[.pointer (some ⟨bl, 0, none⟩)] w (DPost w b gd (R.D.sync 1) (.int .i64 (R.D.syncE 1))) := by
  have TP := Lib.hid (fun b1 w1 (h1 : DP w1 b1 gd R.D) => disk_Sync gd R.D b1 1 w1 h1 hfit.ok (by have := hfit.count; omega) (by have := hfit.waits; omega))
  obtain ⟨E, hE⟩ : ∃ x, R.D.syncE 1 = x := ⟨_, rfl⟩
  obtain ⟨D', hD⟩ : ∃ x, R.D.sync 1 = x := ⟨_, rfl⟩
  rw [hE, hD] at TP ⊢
  have HL := Lib.hid h
  have x0 := hx.cell 0
  have x1 := h.cell0
  clear hE hD h hx hfit
  go_enter Try.func70, Try.ntmps70
  go_wp2_with (go_at_call 57; (with_reducible refine (TP.out _ _ HL.out.disk).mono ?_); rintro e w2 ⟨rfl, hd2⟩; have HD := Lib.hid hd2; clear hd2)
  go_ret
  exact ⟨rfl, HD.out⟩

set_option maxRecDepth 100000 in
set_option maxHeartbeats 800000 in
theorem wal_Checkpoint2 (b : List (Option Nat)) (gd g m1 m2 : Nat) (R : Rw) (bl : Nat) (w : World) (h : LR w b gd g m1 m2 R) (hx : Has w bl 36 #[.pointer (some ⟨g, 0, none⟩)]) (hfit : Fit R.D 1) :
    Calls Try.prog 74 #[.pointer (some ⟨bl, 0, none⟩)] w (DPost w b gd (R.D.sync 0) (.int .i64 (R.D.syncE 0))) := by
  have TP := Lib.hid (fun b1 w1 (h1 : DP w1 b1 gd R.D) => disk_Sync gd R.D b1 0 w1 h1 hfit.ok (by have := hfit.count; omega) (by have := hfit.waits; omega))
  obtain ⟨E, hE⟩ : ∃ x, R.D.syncE 0 = x := ⟨_, rfl⟩
  obtain ⟨D', hD⟩ : ∃ x, R.D.sync 0 = x := ⟨_, rfl⟩
  rw [hE, hD] at TP ⊢
  have HL := Lib.hid h
  have x0 := hx.cell 0
  have x1 := h.cell0
  clear hE hD h hx hfit
  go_enter Try.func74, Try.ntmps74
  go_wp2_with (go_at_call 57; (with_reducible refine (TP.out _ _ HL.out.disk).mono ?_); rintro e w2 ⟨rfl, hd2⟩; have HD := Lib.hid hd2; clear hd2)
  go_ret
  exact ⟨rfl, HD.out⟩


end Go.Proofs.Ytjihboddejaelaa
