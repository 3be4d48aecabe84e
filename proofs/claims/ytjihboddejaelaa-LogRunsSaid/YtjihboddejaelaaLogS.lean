/-
  The reference's log in memory; its tell, Back, Pages.
-/
import Derived.Test.YtjihboddejaelaaLogR
import Derived.Test.YtjihboddejaelaaLog12
import Derived.Test.YtjihboddejaelaaDiskR3
import Derived.Deep.RegionHeld3
namespace Go.Proofs.Ytjihboddejaelaa
open Go.RowKit
open Go.BigFrame
set_option linter.unusedVariables false
set_option linter.unusedSimpArgs false

def Fr.cells (f : Fr) : List Value := [.int .i64 f.n, .string f.text]
def frCells (fs : List Fr) : List Value := fs.flatMap Fr.cells
def rowF (v : Value) (fs : List Fr) : Row := ⟨v, 120, 2, fs.length, frCells fs⟩
def qCells (rd : Nat) (v : Value) (kept pages slot number : Nat) : Array Value := #[.pointer (some ⟨rd, 0, none⟩), v, .int .i64 kept, .int .i64 pages, .int .i64 slot, .int .i64 number]
theorem frCells_length : ∀ fs : List Fr, (frCells fs).length = fs.length * 2
  | [] => rfl
  | f :: fs => by
    have := frCells_length fs
    simp only [frCells, List.flatMap_cons, List.length_append, List.length_cons] at this ⊢
    rw [this]; simp only [Fr.cells, List.length_cons, List.length_nil]; omega
theorem frCells_get : ∀ (fs : List Fr) (j : Nat), (frCells fs)[j]? = fs[j / 2]?.bind fun v => v.cells[j % 2]?
  | [], j => by simp [frCells]
  | v :: fs, j => by
    have ih := frCells_get fs
    show (v.cells ++ frCells fs)[j]? = _
    rw [List.getElem?_append]
    split
    · rename_i h
      have h : j < 2 := h
      rw [show j / 2 = 0 by omega, show j % 2 = j by omega]; rfl
    · rename_i h
      have h : ¬ j < 2 := h
      show (frCells fs)[j - 2]? = _
      rw [ih, show j / 2 = (j - 2) / 2 + 1 by omega, show (j - 2) % 2 = j % 2 by omega]; rfl
theorem frCells_snoc (fs : List Fr) (f : Fr) : frCells (fs ++ [f]) = frCells fs ++ f.cells := by simp [frCells]
/-- a slice of frames that is read -/
def Fz9 (w : World) (A : Option Addr) (n : Nat) (fs : List Fr) : Prop :=
  fs.length = n ∧ (0 < n → ∃ b off, A = some ⟨b, off, none⟩ ∧ b < w.heap.size ∧ ∀ i f, fs[i]? = some f →
    w.cell? ⟨b, off + i * 2, none⟩ = some (.int .i64 f.n) ∧ w.cell? ⟨b, off + i * 2 + 1, none⟩ = some (.string f.text))
theorem Fz9.of_own {w : World} {b : Nat} {e : TypeId} {v : Value} {n : Nat} {fs : List Fr} (h : w.ownsRow b e 2 v n (frCells fs)) : ∃ A c, v = .slice A n c ∧ n ≤ c ∧ Fz9 w A n fs := by
  have hl : fs.length = n := by have := h.1; rw [frCells_length] at this; omega
  rcases h.2 with ⟨rfl, h0⟩ | ⟨g, cap, cur, rfl, hb, hg, hn, _⟩
  · subst h0
    exact ⟨none, 0, rfl, Nat.le_refl _, hl, fun h => absurd h (by omega)⟩
  · refine ⟨_, _, rfl, hn, hl, fun _ => ⟨g, 0, rfl, (Array.getElem?_eq_some_iff.1 hg).1, fun i c hc => ?_⟩⟩
    have gg : ∀ r u, r < 2 → c.cells[r]? = some u → w.cell? ⟨g, 0 + (i * 2 + r), none⟩ = some u := fun r u hr hu => by
      have := h.cells (g := g) rfl (i * 2 + r) u (by rw [frCells_get, show (i * 2 + r) / 2 = i by omega, show (i * 2 + r) % 2 = r by omega, hc]; exact hu)
      rw [addr_add] at this; exact this
    refine ⟨gg 0 _ (by omega) rfl, ?_⟩
    have := gg 1 _ (by omega) rfl; simpa [Nat.add_assoc] using this
/-- the reference's log L lies at block r, in blocks c, its disk at rd in blocks b -/
structure LQ (w : World) (b : List (Option Nat)) (rd r : Nat) (c : List (Option Nat)) (L : Lg) : Prop where
  disk : RP w b rd L.D
  obj : ∃ v, c = blks r [rowF v L.fs] ∧ Ob w r 69 (qCells rd v L.kept L.pages L.slot L.number) [rowF v L.fs]
  disj : Disj b c
def QPost (u : World) (b : List (Option Nat)) (rd r : Nat) (c : List (Option Nat)) (L' : Lg) (v : Value) (e : Ending) (w' : World) : Prop :=
  e = .returned v ∧ ∃ b' c', LQ w' b' rd r c' L' ∧ Turn (b ++ c) (b' ++ c') u w'
section
variable {w w' : World} {b b' c c' : List (Option Nat)} {rd r : Nat} {L L' : Lg}
theorem LQ.below (h : LQ w b rd r c L) (hb : Below w.heap.size w w') : LQ w' b rd r c L := by
  obtain ⟨h1, ⟨v, rfl, h2⟩, h3⟩ := h
  exact ⟨h1.below hb, ⟨v, rfl, h2.below hb⟩, h3⟩
theorem LQ.lt (h : LQ w b rd r c L) {k : Nat} (hk : some k ∈ b ++ c) : k < w.heap.size := by
  obtain ⟨h1, ⟨v, rfl, h2⟩, h3⟩ := h
  rcases List.mem_append.1 hk with h4 | h4
  · exact h1.lt h4
  · exact h2.lt h4
theorem RP.turn {d d' : List (Option Nat)} {D : Dk} (h : RP w b rd D) (ht : Turn d d' w w') (hd : Disj d b) : RP w' b rd D := by
  obtain ⟨v, rfl, hO⟩ := h
  exact ⟨v, rfl, hO.far ht hd⟩
theorem LQ.far {d d' : List (Option Nat)} (h : LQ w b rd r c L) (ht : Turn d d' w w') (hd : Disj d (b ++ c)) : LQ w' b rd r c L := by
  obtain ⟨h1, ⟨v, rfl, h2⟩, h3⟩ := h
  exact ⟨h1.turn ht fun k hk h4 => hd k hk (List.mem_append_left _ h4), ⟨v, rfl, h2.far ht fun k hk h4 => hd k hk (List.mem_append_right _ h4)⟩, h3⟩
theorem LQ.onDisk {D' : Dk} (h : LQ w b rd r c L) (hD : RP w' b' rd D') (ht : Turn b b' w w') : LQ w' b' rd r c { L with D := D' } ∧ Turn (b ++ c) (b' ++ c) w w' := by
  obtain ⟨h1, ⟨v, rfl, h2⟩, h3⟩ := h
  exact ⟨⟨hD, ⟨v, rfl, h2.far ht h3⟩, h2.disj ht h3⟩, ht.left _⟩
theorem LQ.head (h : LQ w b rd r c L) : some r ∈ c ∧ some r ∉ b := by
  obtain ⟨h1, ⟨v, rfl, h2⟩, h3⟩ := h
  exact ⟨List.mem_cons_self .., fun h4 => h3 r h4 (List.mem_cons_self ..)⟩
/-- a cell of the log's block that is not its slice's -/
theorem LQ.set (h : LQ w b rd r c L) (i : Nat) (u : Value) (L' : Lg) (hf : L'.fs = L.fs) (hD : L'.D = L.D) (hc : ∀ v, (qCells rd v L.kept L.pages L.slot L.number).setIfInBounds i u = qCells rd v L'.kept L'.pages L'.slot L'.number) :
    LQ (w.setCell ⟨r, i, none⟩ u) b rd r c L' ∧ Turn (b ++ c) (b ++ c) w (w.setCell ⟨r, i, none⟩ u) := by
  have hh := h.head
  obtain ⟨h1, ⟨v, rfl, h2⟩, h3⟩ := h
  have t1 := Turn.cell r i u w
  refine ⟨⟨hD ▸ h1.turn t1 fun k hk h4 => ?_, ⟨v, by rw [hf], ?_⟩, h3⟩, t1.wide (fun k hk => ?_) (fun k hk => .inr hk)⟩
  · have : k = r := by simpa using hk
    subst this; exact hh.2 h4
  · rw [hf, ← hc v]; exact h2.set i u
  · have : k = r := by simpa using hk
    subst this; exact List.mem_append_right _ hh.1
theorem LQ.cells (h : LQ w b rd r c L) : w.cell? ⟨r, 0, none⟩ = some (.pointer (some ⟨rd, 0, none⟩)) ∧ w.cell? ⟨r, 2, none⟩ = some (.int .i64 L.kept) ∧ w.cell? ⟨r, 3, none⟩ = some (.int .i64 L.pages) ∧ w.cell? ⟨r, 4, none⟩ = some (.int .i64 L.slot) ∧ w.cell? ⟨r, 5, none⟩ = some (.int .i64 L.number) ∧ r < w.heap.size ∧ ∀ i, w.frozen? ⟨r, i, none⟩ = false := by
  obtain ⟨h1, ⟨v, rfl, h2⟩, h3⟩ := h
  exact ⟨h2.has.cell 0, h2.has.cell 2, h2.has.cell 3, h2.has.cell 4, h2.has.cell 5, h2.has.lt, h2.has.frozen⟩
theorem LQ.frames (h : LQ w b rd r c L) : ∃ A k, w.cell? ⟨r, 1, none⟩ = some (.slice A L.fs.length k) ∧ L.fs.length ≤ k ∧ Fz9 w A L.fs.length L.fs := by
  obtain ⟨h1, ⟨v, rfl, h2⟩, h3⟩ := h
  obtain ⟨A, k, hv, hk, hF⟩ := Fz9.of_own (h2.own 0 rfl)
  refine ⟨A, k, ?_, hk, hF⟩
  have := h2.has.cell 1
  rw [this]
  exact congrArg some hv
end
theorem QPost.refl {w : World} {b c : List (Option Nat)} {rd r : Nat} {L : Lg} {v : Value} (h : LQ w b rd r c L) : QPost w b rd r c L v (.returned v) w := ⟨rfl, b, c, h, Turn.refl _ _⟩

set_option maxHeartbeats 400000 in
theorem ref_Pages (b : List (Option Nat)) (rd r : Nat) (c : List (Option Nat)) (L : Lg) (w : World) (h : LQ w b rd r c L) : Calls Try.prog 38 #[.pointer (some ⟨r, 0, none⟩)] w fun e w' => e = .returned (.int .i64 L.pages) ∧ w = w' := by
  have x3 := h.cells.2.2.1
  go_enter Try.func38, Try.ntmps38
  go_wp2_with fail
  go_ret
  exact ⟨rfl, rfl⟩

set_option maxRecDepth 100000 in
set_option maxHeartbeats 6400000 in
theorem ref_tell (b : List (Option Nat)) (rd r : Nat) (c : List (Option Nat)) (L : Lg) (f p : Nat) (w : World) (h : LQ w b rd r c L) (hfit : Fit L.D 2) (hs : L.slot < 2) (hnum : L.number < 4) (hf : f ≤ 4611686018427387904) (hp : p ≤ 4611686018427387904) :
    Calls Try.prog 82 #[.pointer (some ⟨r, 0, none⟩), .int .i64 f, .int .i64 p] w (QPost w b rd r c (L.tell f p) (.int .i64 (L.tellE f p))) := by
  have ST := Lib.hid (ref_slot (L.number % 3 + 1) f p (by omega) hf hp)
  rw [show ((L.number % 3 + 1 : Nat) : Int) = (L.number : Int) % 3 + 1 by omega] at ST
  have W0 : L.D.writeE 1 (16 + 24 * (1 - L.slot) : Nat) (bsOf (slotL (L.number % 3 + 1) f p)) = L.D.turnE := writeE_fits (f := 1) ⟨by omega, by rw [bsOf_size, slotL_len]; omega⟩
  have TP := Lib.hid (fun b1 w1 (h1 : RP w1 b1 rd L.D) => refd_Write rd L.D b1 1 (16 + 24 * (1 - L.slot) : Nat) (bsOf (slotL (L.number % 3 + 1) f p)) w1 h1 hfit.ok (by have := hfit.count; omega) (by have := hfit.waits; omega) (by rw [bsOf_size, slotL_len]; omega))
  have hD1 : L.D.write 1 (16 + 24 * (1 - L.slot) : Nat) (bsOf (slotL (L.number % 3 + 1) f p)) = L.tellD f p := rfl
  rw [W0, hD1] at TP
  have f1 : Fit (L.tellD f p) 1 := hfit.write _ _ _
  have TS := Lib.hid (fun b1 w1 (h1 : RP w1 b1 rd (L.tellD f p)) => refd_Sync rd (L.tellD f p) b1 1 w1 h1 f1.ok (by have := f1.count; omega) (by have := f1.waits; omega))
  rw [show (L.tellD f p).syncE 1 = (L.tellD f p).turnE from syncE_fits (f := 1) (by omega)] at TS
  obtain ⟨S, hS⟩ : ∃ S, bsOf (slotL (L.number % 3 + 1) f p) = S := ⟨_, rfl⟩
  rw [hS] at ST TP
  have HL := Lib.hid h
  have HB := Lib.hid ((Below.refl w.heap.size w.drew).drew)
  obtain ⟨x0, x2, x3, x4, x5, xz, xf⟩ := h.cells
  have HA1 := Lib.hid (show L.D.stops → L.tellE f p = 2 ∧ L.tell f p = { L with D := L.tellD f p } ∧ L.D.turnE = 2 from fun hs => ⟨if_pos hs, if_pos hs, if_pos hs⟩)
  have HA2 := Lib.hid (show ¬ L.D.stops → (L.tellD f p).stops → L.tellE f p = 2 ∧ L.tell f p = { L with D := (L.tellD f p).sync 1 } ∧ L.D.turnE = 0 ∧ (L.tellD f p).turnE = 2 from fun h1 h2 => ⟨(if_neg h1).trans (if_pos h2), (if_neg h1).trans (if_pos h2), if_neg h1, if_pos h2⟩)
  have HA3 := Lib.hid (show ¬ L.D.stops → ¬ (L.tellD f p).stops → L.tellE f p = 0 ∧ L.tell f p = { L with D := (L.tellD f p).sync 1, slot := 1 - L.slot, number := L.number % 3 + 1, kept := f, pages := p } ∧ L.D.turnE = 0 ∧ (L.tellD f p).turnE = 0 from fun h1 h2 => ⟨(if_neg h1).trans (if_neg h2), (if_neg h1).trans (if_neg h2), if_neg h1, if_neg h2⟩)
  obtain ⟨D1, hD⟩ : ∃ D, L.tellD f p = D := ⟨_, rfl⟩
  rw [hD] at TP TS HA1 HA2 HA3
  clear hS W0 hD1 f1 hD h hfit
  have hsl : L.slot = 0 ∨ L.slot = 1 := by omega
  have HK := Lib.hid hsl
  rcases HK.out with hk | hk
  · rw [hk] at x4 TP
    rw [show ((0 : Nat) : Int) = 0 from rfl] at x4
    rw [show (((16 + 24 * (1 - 0) : Nat)) : Int) = IntKind.i64.wrap (16 + IntKind.i64.wrap 24) by decide] at TP
    have HSL := Lib.hid hk
    clear hk HK hsl
    by_cases h1 : L.D.stops
    · have EA := Lib.hid (HA1.out h1)
      rw [EA.out.1, EA.out.2.1]
      rw [EA.out.2.2] at TP
      clear h1 HA1 HA2 HA3 TS
      go_enter Try.func82, Try.ntmps82
      go_wp2_with fail
      go_region
      go_wp2_with fail
      go_region_held3 (fun w' => w'.cell? ⟨r, 0, none⟩ = some (.pointer (some ⟨rd, 0, none⟩))) (first | exact z0 | exact y0 | go_keep)
        (first | (go_at_call 111; (with_reducible refine (ST.out _).mono ?_); rintro e w1 ⟨rfl, hb1⟩; have H1 := Lib.hid ((HL.out.below (Below.refl _ _).drew).below (bel_step HB.out hb1 HB.out.size)); have HB1 := Lib.hid (bel_step HB.out hb1 HB.out.size); have y0 := H1.out.cells.1) | (go_at_call 52; (with_reducible refine (TP.out _ _ H1.out.disk).mono ?_); rintro e w2 ⟨rfl, b2, hd2, ht2⟩; obtain ⟨hl2, hu2⟩ := H1.out.onDisk hd2 ht2; have HL2 := Lib.hid hl2; have HT2 := Lib.hid (((Turn.below (b ++ c) (Below.refl _ _).drew).trans (Turn.below _ HB1.out)).trans hu2); have z0 := hl2.cells.1; clear hd2 ht2 hb1 hl2 hu2))
      go_wp2_with fail
      go_ret
      exact ⟨rfl, b2, c, HL2.out, HT2.out⟩
    · by_cases h2 : D1.stops
      · have EA := Lib.hid (HA2.out h1 h2)
        rw [EA.out.1, EA.out.2.1]
        rw [EA.out.2.2.1] at TP
        rw [EA.out.2.2.2] at TS
        clear h1 h2 HA1 HA2 HA3
        go_enter Try.func82, Try.ntmps82
        go_wp2_with fail
        go_region
        go_wp2_with fail
        go_region_held3 (fun w' => w'.cell? ⟨r, 0, none⟩ = some (.pointer (some ⟨rd, 0, none⟩))) (first | exact z0 | exact y0 | go_keep)
          (first | (go_at_call 111; (with_reducible refine (ST.out _).mono ?_); rintro e w1 ⟨rfl, hb1⟩; have H1 := Lib.hid ((HL.out.below (Below.refl _ _).drew).below (bel_step HB.out hb1 HB.out.size)); have HB1 := Lib.hid (bel_step HB.out hb1 HB.out.size); have y0 := H1.out.cells.1) | (go_at_call 52; (with_reducible refine (TP.out _ _ H1.out.disk).mono ?_); rintro e w2 ⟨rfl, b2, hd2, ht2⟩; obtain ⟨hl2, hu2⟩ := H1.out.onDisk hd2 ht2; have HL2 := Lib.hid hl2; have HT2 := Lib.hid (((Turn.below (b ++ c) (Below.refl _ _).drew).trans (Turn.below _ HB1.out)).trans hu2); have z0 := hl2.cells.1; clear hd2 ht2 hb1 hl2 hu2))
        have y9 := HL2.out.cells.1
        go_wp2_with (go_at_call 58; (with_reducible refine (TS.out _ _ HL2.out.disk).mono ?_); rintro e w3 ⟨rfl, b3, hd3, ht3⟩; obtain ⟨hl3, hu3⟩ := HL2.out.onDisk hd3 ht3; have HL3 := Lib.hid hl3; have HT3 := Lib.hid (HT2.out.trans hu3); obtain ⟨v0, v2, v3, v4, v5, vz, vf⟩ := hl3.cells; clear hd3 ht3 hl3 hu3)
        go_ret
        exact ⟨rfl, b3, c, HL3.out, HT3.out⟩
      · have EA := Lib.hid (HA3.out h1 h2)
        rw [EA.out.1, EA.out.2.1]
        rw [EA.out.2.2.1] at TP
        rw [EA.out.2.2.2] at TS
        clear h1 h2 HA1 HA2 HA3
        go_enter Try.func82, Try.ntmps82
        go_wp2_with fail
        go_region
        go_wp2_with fail
        go_region_held3 (fun w' => w'.cell? ⟨r, 0, none⟩ = some (.pointer (some ⟨rd, 0, none⟩))) (first | exact z0 | exact y0 | go_keep)
          (first | (go_at_call 111; (with_reducible refine (ST.out _).mono ?_); rintro e w1 ⟨rfl, hb1⟩; have H1 := Lib.hid ((HL.out.below (Below.refl _ _).drew).below (bel_step HB.out hb1 HB.out.size)); have HB1 := Lib.hid (bel_step HB.out hb1 HB.out.size); have y0 := H1.out.cells.1) | (go_at_call 52; (with_reducible refine (TP.out _ _ H1.out.disk).mono ?_); rintro e w2 ⟨rfl, b2, hd2, ht2⟩; obtain ⟨hl2, hu2⟩ := H1.out.onDisk hd2 ht2; have HL2 := Lib.hid hl2; have HT2 := Lib.hid (((Turn.below (b ++ c) (Below.refl _ _).drew).trans (Turn.below _ HB1.out)).trans hu2); have z0 := hl2.cells.1; clear hd2 ht2 hb1 hl2 hu2))
        have y9 := HL2.out.cells.1
        go_wp2_with (go_at_call 58; (with_reducible refine (TS.out _ _ HL2.out.disk).mono ?_); rintro e w3 ⟨rfl, b3, hd3, ht3⟩; obtain ⟨hl3, hu3⟩ := HL2.out.onDisk hd3 ht3; have HL3 := Lib.hid hl3; have HT3 := Lib.hid (HT2.out.trans hu3); obtain ⟨v0, v2, v3, v4, v5, vz, vf⟩ := hl3.cells; clear hd3 ht3 hl3 hu3)
        go_ret
        obtain ⟨q1, t1⟩ := HL3.out.set 4 (.int .i64 ((1 - L.slot : Nat) : Int)) { L with D := D1.sync 1, slot := 1 - L.slot } rfl rfl (fun v => rfl)
        obtain ⟨q2, t2⟩ := q1.set 5 (.int .i64 ((L.number % 3 + 1 : Nat) : Int)) { L with D := D1.sync 1, slot := 1 - L.slot, number := L.number % 3 + 1 } rfl rfl (fun v => rfl)
        obtain ⟨q3, t3⟩ := q2.set 2 (.int .i64 f) { L with D := D1.sync 1, slot := 1 - L.slot, number := L.number % 3 + 1, kept := f } rfl rfl (fun v => rfl)
        obtain ⟨q4, t4⟩ := q3.set 3 (.int .i64 p) { L with D := D1.sync 1, slot := 1 - L.slot, number := L.number % 3 + 1, kept := f, pages := p } rfl rfl (fun v => rfl)
        have e1 : ((1 - L.slot : Nat) : Int) = 1 := by rw [HSL.out]; rfl
        have e2 : ((L.number % 3 + 1 : Nat) : Int) = (L.number : Int) % 3 + 1 := by omega
        rw [e1] at t1
        rw [e1, e2] at t2
        rw [e1, e2] at t3
        rw [e1, e2] at q4 t4
        exact ⟨rfl, b3, c, q4, (((HT3.out.trans t1).trans t2).trans t3).trans t4⟩
  · rw [hk] at x4 TP
    rw [show ((1 : Nat) : Int) = 1 from rfl] at x4
    rw [show (((16 + 24 * (1 - 1) : Nat)) : Int) = IntKind.i64.wrap (16 + IntKind.i64.wrap 0) by decide] at TP
    have HSL := Lib.hid hk
    clear hk HK hsl
    by_cases h1 : L.D.stops
    · have EA := Lib.hid (HA1.out h1)
      rw [EA.out.1, EA.out.2.1]
      rw [EA.out.2.2] at TP
      clear h1 HA1 HA2 HA3 TS
      go_enter Try.func82, Try.ntmps82
      go_wp2_with fail
      go_region
      go_wp2_with fail
      go_region_held3 (fun w' => w'.cell? ⟨r, 0, none⟩ = some (.pointer (some ⟨rd, 0, none⟩))) (first | exact z0 | exact y0 | go_keep)
        (first | (go_at_call 111; (with_reducible refine (ST.out _).mono ?_); rintro e w1 ⟨rfl, hb1⟩; have H1 := Lib.hid ((HL.out.below (Below.refl _ _).drew).below (bel_step HB.out hb1 HB.out.size)); have HB1 := Lib.hid (bel_step HB.out hb1 HB.out.size); have y0 := H1.out.cells.1) | (go_at_call 52; (with_reducible refine (TP.out _ _ H1.out.disk).mono ?_); rintro e w2 ⟨rfl, b2, hd2, ht2⟩; obtain ⟨hl2, hu2⟩ := H1.out.onDisk hd2 ht2; have HL2 := Lib.hid hl2; have HT2 := Lib.hid (((Turn.below (b ++ c) (Below.refl _ _).drew).trans (Turn.below _ HB1.out)).trans hu2); have z0 := hl2.cells.1; clear hd2 ht2 hb1 hl2 hu2))
      go_wp2_with fail
      go_ret
      exact ⟨rfl, b2, c, HL2.out, HT2.out⟩
    · by_cases h2 : D1.stops
      · have EA := Lib.hid (HA2.out h1 h2)
        rw [EA.out.1, EA.out.2.1]
        rw [EA.out.2.2.1] at TP
        rw [EA.out.2.2.2] at TS
        clear h1 h2 HA1 HA2 HA3
        go_enter Try.func82, Try.ntmps82
        go_wp2_with fail
        go_region
        go_wp2_with fail
        go_region_held3 (fun w' => w'.cell? ⟨r, 0, none⟩ = some (.pointer (some ⟨rd, 0, none⟩))) (first | exact z0 | exact y0 | go_keep)
          (first | (go_at_call 111; (with_reducible refine (ST.out _).mono ?_); rintro e w1 ⟨rfl, hb1⟩; have H1 := Lib.hid ((HL.out.below (Below.refl _ _).drew).below (bel_step HB.out hb1 HB.out.size)); have HB1 := Lib.hid (bel_step HB.out hb1 HB.out.size); have y0 := H1.out.cells.1) | (go_at_call 52; (with_reducible refine (TP.out _ _ H1.out.disk).mono ?_); rintro e w2 ⟨rfl, b2, hd2, ht2⟩; obtain ⟨hl2, hu2⟩ := H1.out.onDisk hd2 ht2; have HL2 := Lib.hid hl2; have HT2 := Lib.hid (((Turn.below (b ++ c) (Below.refl _ _).drew).trans (Turn.below _ HB1.out)).trans hu2); have z0 := hl2.cells.1; clear hd2 ht2 hb1 hl2 hu2))
        have y9 := HL2.out.cells.1
        go_wp2_with (go_at_call 58; (with_reducible refine (TS.out _ _ HL2.out.disk).mono ?_); rintro e w3 ⟨rfl, b3, hd3, ht3⟩; obtain ⟨hl3, hu3⟩ := HL2.out.onDisk hd3 ht3; have HL3 := Lib.hid hl3; have HT3 := Lib.hid (HT2.out.trans hu3); obtain ⟨v0, v2, v3, v4, v5, vz, vf⟩ := hl3.cells; clear hd3 ht3 hl3 hu3)
        go_ret
        exact ⟨rfl, b3, c, HL3.out, HT3.out⟩
      · have EA := Lib.hid (HA3.out h1 h2)
        rw [EA.out.1, EA.out.2.1]
        rw [EA.out.2.2.1] at TP
        rw [EA.out.2.2.2] at TS
        clear h1 h2 HA1 HA2 HA3
        go_enter Try.func82, Try.ntmps82
        go_wp2_with fail
        go_region
        go_wp2_with fail
        go_region_held3 (fun w' => w'.cell? ⟨r, 0, none⟩ = some (.pointer (some ⟨rd, 0, none⟩))) (first | exact z0 | exact y0 | go_keep)
          (first | (go_at_call 111; (with_reducible refine (ST.out _).mono ?_); rintro e w1 ⟨rfl, hb1⟩; have H1 := Lib.hid ((HL.out.below (Below.refl _ _).drew).below (bel_step HB.out hb1 HB.out.size)); have HB1 := Lib.hid (bel_step HB.out hb1 HB.out.size); have y0 := H1.out.cells.1) | (go_at_call 52; (with_reducible refine (TP.out _ _ H1.out.disk).mono ?_); rintro e w2 ⟨rfl, b2, hd2, ht2⟩; obtain ⟨hl2, hu2⟩ := H1.out.onDisk hd2 ht2; have HL2 := Lib.hid hl2; have HT2 := Lib.hid (((Turn.below (b ++ c) (Below.refl _ _).drew).trans (Turn.below _ HB1.out)).trans hu2); have z0 := hl2.cells.1; clear hd2 ht2 hb1 hl2 hu2))
        have y9 := HL2.out.cells.1
        go_wp2_with (go_at_call 58; (with_reducible refine (TS.out _ _ HL2.out.disk).mono ?_); rintro e w3 ⟨rfl, b3, hd3, ht3⟩; obtain ⟨hl3, hu3⟩ := HL2.out.onDisk hd3 ht3; have HL3 := Lib.hid hl3; have HT3 := Lib.hid (HT2.out.trans hu3); obtain ⟨v0, v2, v3, v4, v5, vz, vf⟩ := hl3.cells; clear hd3 ht3 hl3 hu3)
        go_ret
        obtain ⟨q1, t1⟩ := HL3.out.set 4 (.int .i64 ((1 - L.slot : Nat) : Int)) { L with D := D1.sync 1, slot := 1 - L.slot } rfl rfl (fun v => rfl)
        obtain ⟨q2, t2⟩ := q1.set 5 (.int .i64 ((L.number % 3 + 1 : Nat) : Int)) { L with D := D1.sync 1, slot := 1 - L.slot, number := L.number % 3 + 1 } rfl rfl (fun v => rfl)
        obtain ⟨q3, t3⟩ := q2.set 2 (.int .i64 f) { L with D := D1.sync 1, slot := 1 - L.slot, number := L.number % 3 + 1, kept := f } rfl rfl (fun v => rfl)
        obtain ⟨q4, t4⟩ := q3.set 3 (.int .i64 p) { L with D := D1.sync 1, slot := 1 - L.slot, number := L.number % 3 + 1, kept := f, pages := p } rfl rfl (fun v => rfl)
        have e1 : ((1 - L.slot : Nat) : Int) = 0 := by rw [HSL.out]; rfl
        have e2 : ((L.number % 3 + 1 : Nat) : Int) = (L.number : Int) % 3 + 1 := by omega
        rw [e1] at t1
        rw [e1, e2] at t2
        rw [e1, e2] at t3
        rw [e1, e2] at q4 t4
        exact ⟨rfl, b3, c, q4, (((HT3.out.trans t1).trans t2).trans t3).trans t4⟩

end Go.Proofs.Ytjihboddejaelaa
