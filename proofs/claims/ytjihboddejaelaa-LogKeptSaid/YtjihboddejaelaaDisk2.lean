/-
  The methods of disk.Disk (1): turn, right, Down, Count, Waits, Fail, Size, Read, New.
-/
import Derived.Test.YtjihboddejaelaaDisk1
import Derived.WalkLawsBesides
namespace Go.Proofs.Ytjihboddejaelaa
open Go.RowKit
open Go.BigFrame
set_option linter.unusedVariables false
set_option linter.unusedSimpArgs false

def rowB (v : Value) (l : List UInt8) : Row := ⟨v, 5, 1, l.length, u8s l⟩
def chCells (ws : List Ch) : List Value := ws.flatMap Ch.cells
def rowC (v : Value) (ws : List Ch) : Row := ⟨v, 112, 4, ws.length, chCells ws⟩
def dCells (fs : Int) (dn : Bool) (ct : Nat) (vl0 vs0 vl1 vs1 vw : Value) : Array Value := #[vl0, vs0, vl1, vs1, vw, .int .i64 fs, .bool dn, .int .i64 ct]
def dRows (l0 s0 l1 s1 : List UInt8) (ws : List Ch) (vl0 vs0 vl1 vs1 vw : Value) : List Row := [rowB vl0 l0, rowB vs0 s0, rowB vl1 l1, rowB vs1 s1, rowC vw ws]
/-- what lies at block g, in blocks b: two files' bytes, as they last and as they are seen, and what waits -/
def DPx (w : World) (b : List (Option Nat)) (g : Nat) (l0 s0 l1 s1 : List UInt8) (ws : List Ch) (fs : Int) (dn : Bool) (ct : Nat) : Prop :=
  ∃ vl0 vs0 vl1 vs1 vw, b = blks g (dRows l0 s0 l1 s1 ws vl0 vs0 vl1 vs1 vw) ∧ Ob w g 87 (dCells fs dn ct vl0 vs0 vl1 vs1 vw) (dRows l0 s0 l1 s1 ws vl0 vs0 vl1 vs1 vw)
/-- the disk D lies at block g, in blocks b -/
def DP (w : World) (b : List (Option Nat)) (g : Nat) (D : Dk) : Prop := DPx w b g D.l0 (D.seen 0) D.l1 (D.seen 1) D.waits D.fails D.down D.count
/-- a method has turned the disk into D' -/
def DPost (w : World) (b : List (Option Nat)) (g : Nat) (D' : Dk) (r : Value) (e : Ending) (w' : World) : Prop :=
  e = .returned r ∧ ∃ b', DP w' b' g D' ∧ Turn b b' w w'
section
variable {w w' : World} {b : List (Option Nat)} {g : Nat} {D : Dk} {t : TypeId} {a0 a1 a2 a3 a4 a5 a6 a7 : Value}
theorem Has.cells8 (h : Has w g t #[a0, a1, a2, a3, a4, a5, a6, a7]) : w.cell? ⟨g, 0, none⟩ = some a0 ∧ w.cell? ⟨g, 1, none⟩ = some a1 ∧ w.cell? ⟨g, 2, none⟩ = some a2 ∧ w.cell? ⟨g, 3, none⟩ = some a3 ∧ w.cell? ⟨g, 4, none⟩ = some a4 ∧ w.cell? ⟨g, 5, none⟩ = some a5 ∧ w.cell? ⟨g, 6, none⟩ = some a6 ∧ w.cell? ⟨g, 7, none⟩ = some a7 :=
  ⟨h.cell 0, h.cell 1, h.cell 2, h.cell 3, h.cell 4, h.cell 5, h.cell 6, h.cell 7⟩
theorem DP.below (h : DP w b g D) (hb : Below w.heap.size w w') : DP w' b g D := by
  obtain ⟨v0, v1, v2, v3, v4, h1, h2⟩ := h
  exact ⟨v0, v1, v2, v3, v4, h1, h2.below hb⟩
theorem DP.lt (h : DP w b g D) {k : Nat} (hk : some k ∈ b) : k < w.heap.size := by
  obtain ⟨v0, v1, v2, v3, v4, rfl, h2⟩ := h
  exact h2.lt hk
end

set_option maxRecDepth 100000 in
set_option maxHeartbeats 1600000 in
theorem disk_turn (g : Nat) (D : Dk) (b : List (Option Nat)) (w : World) (h : DP w b g D) (hok : D.ok) (hc : D.count ≤ 4000000000000000000) :
    Calls Try.prog 100 #[.pointer (some ⟨g, 0, none⟩)] w (DPost w b g D.turn (.int .i64 D.turnE)) := by
  obtain ⟨v0, v1, v2, v3, v4, rfl, hO⟩ := h
  have HOb := Lib.hid hO
  obtain ⟨c0, c1, c2, c3, c4, c5, c6, c7⟩ := hO.has.cells8
  have cf := hO.has.frozen
  have cz := hO.has.lt
  have hfl := hok.fails
  obtain ⟨l0, l1, ws, fs, dn, ct⟩ := D
  simp only at c5 c6 c7 hfl hc
  clear hO
  obtain ⟨hf1, hf2⟩ := hfl
  cases dn with
  | true =>
    have E := Lib.hid (show Dk.turn ⟨l0, l1, ws, fs, true, ct⟩ = ⟨l0, l1, ws, fs, true, ct⟩ ∧ Dk.turnE ⟨l0, l1, ws, fs, true, ct⟩ = 2 from ⟨if_pos (.inl rfl), if_pos (.inl rfl)⟩)
    rw [E.out.1, E.out.2]
    go_enter Try.func100, Try.ntmps100
    go_wp2_with fail
    go_ret
    exact ⟨rfl, _, ⟨v0, v1, v2, v3, v4, rfl, HOb.out.set 6 (.bool true)⟩, Turn.set _ _ _ _ _⟩
  | false =>
    by_cases f0 : fs = 0
    · have E := Lib.hid (show Dk.turn ⟨l0, l1, ws, fs, false, ct⟩ = ⟨l0, l1, ws, fs, true, ct⟩ ∧ Dk.turnE ⟨l0, l1, ws, fs, false, ct⟩ = 2 from ⟨if_pos (.inr f0), if_pos (.inr f0)⟩)
      rw [E.out.1, E.out.2]
      subst f0
      go_enter Try.func100, Try.ntmps100
      go_wp2_with fail
      go_ret
      exact ⟨rfl, _, ⟨v0, v1, v2, v3, v4, rfl, HOb.out.set 6 (.bool true)⟩, Turn.set _ _ _ _ _⟩
    · have hst : ¬ Dk.stops ⟨l0, l1, ws, fs, false, ct⟩ := fun h => h.elim (fun h => by cases h) f0
      have E := Lib.hid (show Dk.turn ⟨l0, l1, ws, fs, false, ct⟩ = ⟨l0, l1, ws, if 0 < fs then fs - 1 else fs, false, ct + 1⟩ ∧ Dk.turnE ⟨l0, l1, ws, fs, false, ct⟩ = 0 from ⟨if_neg hst, if_neg hst⟩)
      rw [E.out.1, E.out.2]
      have fe : (fs == 0) = false := by rw [beq_eq_false_iff_ne]; exact f0
      have ec : ((ct + 1 : Nat) : Int) = (ct : Int) + 1 := by omega
      clear hst f0
      by_cases f1 : 0 < fs
      · rw [if_pos f1]
        go_enter Try.func100, Try.ntmps100
        go_wp2_with fail
        go_ret
        refine ⟨rfl, _, ⟨v0, v1, v2, v3, v4, rfl, ?_⟩, (Turn.set _ _ 5 (.int .i64 (fs - 1)) _).trans (Turn.set _ _ 7 (.int .i64 ((ct : Int) + 1)) _)⟩
        exact (HOb.out.set 5 (.int .i64 (fs - 1))).set 7 (.int .i64 ((ct : Int) + 1))
      · rw [if_neg f1]
        go_enter Try.func100, Try.ntmps100
        go_wp2_with fail
        go_ret
        refine ⟨rfl, _, ⟨v0, v1, v2, v3, v4, rfl, ?_⟩, Turn.set _ _ 7 (.int .i64 ((ct : Int) + 1)) _⟩
        exact HOb.out.set 7 (.int .i64 ((ct : Int) + 1))

def fitsB (f a n : Int) : Bool := decide (fitsF f a n)
theorem fitsB_yes {f a n : Int} (h : fitsF f a n) : fitsB f a n = true := decide_eq_true h
theorem fitsB_no {f a n : Int} (h : ¬ fitsF f a n) : fitsB f a n = false := decide_eq_false h
set_option maxHeartbeats 3200000 in
theorem disk_right (f a n : Int) (w : World) : Calls Try.prog 96 #[.int .i64 f, .int .i64 a, .int .i64 n] w fun e w' => e = .returned (.bool (fitsB f a n)) ∧ w = w' := by
  by_cases h0 : 0 ≤ f
  rotate_left
  · have E := Lib.hid (show fitsB f a n = false from fitsB_no (fun h => by obtain ⟨g0, g1, g2, g3, g4, g5⟩ := h; omega))
    go_enter Try.func96, Try.ntmps96
    go_wp2_with fail
    go_ret
    exact ⟨ret_bool (by rw [E.out]), rfl⟩
  by_cases h1 : f < 2
  rotate_left
  · have E := Lib.hid (show fitsB f a n = false from fitsB_no (fun h => by obtain ⟨g0, g1, g2, g3, g4, g5⟩ := h; omega))
    go_enter Try.func96, Try.ntmps96
    go_wp2_with fail
    go_ret
    exact ⟨ret_bool (by rw [E.out]), rfl⟩
  by_cases h2 : 0 ≤ a
  rotate_left
  · have E := Lib.hid (show fitsB f a n = false from fitsB_no (fun h => by obtain ⟨g0, g1, g2, g3, g4, g5⟩ := h; omega))
    go_enter Try.func96, Try.ntmps96
    go_wp2_with fail
    go_ret
    exact ⟨ret_bool (by rw [E.out]), rfl⟩
  by_cases h3 : 0 ≤ n
  rotate_left
  · have E := Lib.hid (show fitsB f a n = false from fitsB_no (fun h => by obtain ⟨g0, g1, g2, g3, g4, g5⟩ := h; omega))
    go_enter Try.func96, Try.ntmps96
    go_wp2_with fail
    go_ret
    exact ⟨ret_bool (by rw [E.out]), rfl⟩
  by_cases h4 : a ≤ 67108864
  rotate_left
  · have E := Lib.hid (show fitsB f a n = false from fitsB_no (fun h => by obtain ⟨g0, g1, g2, g3, g4, g5⟩ := h; omega))
    go_enter Try.func96, Try.ntmps96
    go_wp2_with fail
    go_ret
    exact ⟨ret_bool (by rw [E.out]), rfl⟩
  by_cases h5 : n ≤ 67108864 - a
  rotate_left
  · have E := Lib.hid (show fitsB f a n = false from fitsB_no (fun h => by obtain ⟨g0, g1, g2, g3, g4, g5⟩ := h; omega))
    go_enter Try.func96, Try.ntmps96
    go_wp2_with fail
    go_ret
    exact ⟨ret_bool (by rw [E.out]), rfl⟩
  have E := Lib.hid (show fitsB f a n = true from fitsB_yes ⟨h0, h1, h2, h3, h4, h5⟩)
  go_enter Try.func96, Try.ntmps96
  go_wp2_with fail
  go_ret
  exact ⟨ret_bool (by rw [E.out]), rfl⟩

set_option maxHeartbeats 400000 in
theorem disk_Down (g : Nat) (D : Dk) (b : List (Option Nat)) (w : World) (h : DP w b g D) : Calls Try.prog 22 #[.pointer (some ⟨g, 0, none⟩)] w fun e w' => e = .returned (.bool D.down) ∧ w = w' := by
  obtain ⟨v0, v1, v2, v3, v4, rfl, hO⟩ := h
  obtain ⟨c0, c1, c2, c3, c4, c5, c6, c7⟩ := hO.has.cells8
  go_enter Try.func22, Try.ntmps22
  go_wp2_with fail
  go_ret
  exact ⟨rfl, rfl⟩
set_option maxHeartbeats 400000 in
theorem disk_Count (g : Nat) (D : Dk) (b : List (Option Nat)) (w : World) (h : DP w b g D) : Calls Try.prog 60 #[.pointer (some ⟨g, 0, none⟩)] w fun e w' => e = .returned (.int .i64 D.count) ∧ w = w' := by
  obtain ⟨v0, v1, v2, v3, v4, rfl, hO⟩ := h
  obtain ⟨c0, c1, c2, c3, c4, c5, c6, c7⟩ := hO.has.cells8
  go_enter Try.func60, Try.ntmps60
  go_wp2_with fail
  go_ret
  exact ⟨rfl, rfl⟩
theorem own_form {w : World} {b : Nat} {e : TypeId} {size : Nat} {v : Value} {n : Nat} {xs : List Value} (h : w.ownsRow b e size v n xs) : ∃ A c, v = .slice A n c ∧ n ≤ c := by
  rcases h.2 with ⟨rfl, rfl⟩ | ⟨g, cap, cur, rfl, _, _, hn, _⟩
  · exact ⟨none, 0, rfl, Nat.le_refl _⟩
  · exact ⟨_, _, rfl, hn⟩
theorem Ob.own {w : World} {g : Nat} {t : TypeId} {cs : Array Value} {rs : List Row} (h : Ob w g t cs rs) (i : Nat) {r : Row} (hr : rs[i]? = some r) : w.ownsRow 0 r.e r.size r.v r.n r.xs := h.rows r (List.mem_of_getElem? hr)
set_option maxHeartbeats 400000 in
theorem disk_Waits (g : Nat) (D : Dk) (b : List (Option Nat)) (w : World) (h : DP w b g D) : Calls Try.prog 61 #[.pointer (some ⟨g, 0, none⟩)] w fun e w' => e = .returned (.int .i64 D.waits.length) ∧ w = w' := by
  obtain ⟨v0, v1, v2, v3, v4, rfl, hO⟩ := h
  obtain ⟨A, c, hv, _⟩ := own_form (hO.own 4 rfl)
  obtain ⟨c0, c1, c2, c3, c4, c5, c6, c7⟩ := hO.has.cells8
  rw [show v4 = .slice A D.waits.length c from hv] at c4
  clear hO hv
  go_enter Try.func61, Try.ntmps61
  go_wp2_with fail
  go_ret
  exact ⟨rfl, rfl⟩
set_option maxHeartbeats 400000 in
theorem disk_Fail (g : Nat) (D : Dk) (b : List (Option Nat)) (n : Int) (w : World) (h : DP w b g D) : Calls Try.prog 13 #[.pointer (some ⟨g, 0, none⟩), .int .i64 n] w (DPost w b g (D.fail n) (.tuple #[])) := by
  obtain ⟨v0, v1, v2, v3, v4, rfl, hO⟩ := h
  have HOb := Lib.hid hO
  obtain ⟨c0, c1, c2, c3, c4, c5, c6, c7⟩ := hO.has.cells8
  have cf := hO.has.frozen
  have cz := hO.has.lt
  clear hO
  by_cases hn : n < 0
  · have E := Lib.hid (show D.fail n = { D with fails := -1 } by unfold Dk.fail; rw [if_pos hn])
    rw [E.out]
    have hm : max n (-1) = -1 := by omega
    go_enter Try.func13, Try.ntmps13
    go_wp2_with fail
    go_end0
    exact ⟨rfl, _, ⟨v0, v1, v2, v3, v4, rfl, HOb.out.set 5 (.int .i64 (-1))⟩, Turn.set _ _ _ _ _⟩
  · have E := Lib.hid (show D.fail n = { D with fails := n } by unfold Dk.fail; rw [if_neg hn])
    rw [E.out]
    have hm : max n (-1) = n := by omega
    go_enter Try.func13, Try.ntmps13
    go_wp2_with fail
    go_end0
    exact ⟨rfl, _, ⟨v0, v1, v2, v3, v4, rfl, HOb.out.set 5 (.int .i64 n)⟩, Turn.set _ _ _ _ _⟩

theorem slice_mid {w : World} {A : Option Addr} {m c a n : Nat} {l : List UInt8} (hown : w.ownsRow 0 5 1 (.slice A m c) m (u8s l)) (h : a + n ≤ m) :
    ∃ dp k, (∀ w1 : World, (Instr.sliceAt 81 (.slice A m c) (some (.int .i64 a)) (some (.int .i64 ((a : Int) + (n : Int)))) none).run Try.prog w1 = .ok (.slice dp n k) w1) ∧ BS w dp n ((l.drop a).take n) := by
  obtain ⟨A', c', hv, hmc, hb⟩ := BS.of_own hown
  cases hv
  have h1 : (0 : Int) ≤ (a : Int) := by omega
  have h2 : (a : Int) ≤ (a : Int) + (n : Int) := by omega
  have h3 : (a : Int) + (n : Int) ≤ (c : Int) := by omega
  have e1 : ((a : Int) + (n : Int)).toNat - a = n := by omega
  refine ⟨if c = a then A else A.map (·.add (a * 1)), c - a, fun w1 => ?_, ?_⟩
  · go_simp
  · have hl := hb.1
    refine ⟨by rw [List.length_take, List.length_drop]; omega, fun hn => ?_⟩
    obtain ⟨g, off, rfl, hg, hc⟩ := hb.2 (by omega)
    rw [if_neg (by omega)]
    refine ⟨g, off + a, by simp only [Option.map_some, addr_add]; simp, hg, fun i v hv => ?_⟩
    rw [List.getElem?_take] at hv
    split at hv
    · rw [List.getElem?_drop] at hv
      rw [Nat.add_assoc]; exact hc _ _ hv
    · cases hv
/-- the row of a file's bytes as they are seen -/
theorem DP.seen {w : World} {b : List (Option Nat)} {g : Nat} {D : Dk} (h : DP w b g D) (f : Nat) (hf : f < 2) : ∃ v A c, w.cell? ⟨g, 2 * f + 1, none⟩ = some v ∧ v = .slice A (D.seen f).length c ∧ w.ownsRow 0 5 1 v (D.seen f).length (u8s (D.seen f)) := by
  obtain ⟨v0, v1, v2, v3, v4, rfl, hO⟩ := h
  obtain ⟨c0, c1, c2, c3, c4, c5, c6, c7⟩ := hO.has.cells8
  rcases (show f = 0 ∨ f = 1 by omega) with rfl | rfl
  · have ho := hO.own 1 rfl
    obtain ⟨A, c, hv, _⟩ := own_form ho
    exact ⟨v1, A, c, c1, hv, ho⟩
  · have ho := hO.own 3 rfl
    obtain ⟨A, c, hv, _⟩ := own_form ho
    exact ⟨v3, A, c, c3, hv, ho⟩
theorem DP.down {w : World} {b : List (Option Nat)} {g : Nat} {D : Dk} (h : DP w b g D) : w.cell? ⟨g, 6, none⟩ = some (.bool D.down) ∧ g < w.heap.size ∧ ∀ i, w.frozen? ⟨g, i, none⟩ = false := by
  obtain ⟨v0, v1, v2, v3, v4, rfl, hO⟩ := h
  exact ⟨hO.has.cells8.2.2.2.2.2.2.1, hO.has.lt, hO.has.frozen⟩
set_option maxRecDepth 100000 in
set_option maxHeartbeats 1600000 in
theorem disk_Size (g : Nat) (D : Dk) (b : List (Option Nat)) (f : Int) (w : World) (h : DP w b g D) (hok : D.ok) : Calls Try.prog 55 #[.pointer (some ⟨g, 0, none⟩), .int .i64 f] w fun e w' => e = .returned (.tuple #[.int .i64 (D.sizeN f), .int .i64 (D.sizeE f)]) ∧ w = w' := by
  obtain ⟨c6, cz, _⟩ := h.down
  have R := Lib.hid (fun w1 => disk_right f 0 0 w1)
  by_cases hf : 0 ≤ f ∧ f < 2
  · rw [fitsB_yes ⟨hf.1, hf.2, by omega, by omega, by omega, by omega⟩] at R
    obtain ⟨F, rfl⟩ : ∃ F : Nat, f = F := ⟨f.toNat, by omega⟩
    cases hd : D.down with
    | true =>
      have E := Lib.hid (show D.sizeN F = 0 ∧ D.sizeE F = 2 from ⟨if_neg (fun h => by rw [hd] at h; exact absurd h.2.2 (by decide)), by unfold Dk.sizeE; rw [if_pos hf, if_pos hd]⟩)
      rw [E.out.1, E.out.2]
      rw [hd] at c6
      clear hd
      go_enter Try.func55, Try.ntmps55
      go_wp2_with (go_at_call 96; (with_reducible refine (R.out _).mono ?_); rintro e w1 ⟨rfl, rfl⟩)
      go_ret2
      exact ⟨rfl, rfl⟩
    | false =>
      have E := Lib.hid (show D.sizeN F = (D.seen F).length ∧ D.sizeE F = 0 from ⟨if_pos ⟨hf.1, hf.2, hd⟩, by unfold Dk.sizeE; rw [if_pos hf, if_neg (by rw [hd]; decide)]⟩)
      rw [E.out.1, E.out.2]
      rw [hd] at c6
      obtain ⟨v, A, c, cv, rfl, _⟩ := h.seen F (by omega)
      obtain ⟨S, hS⟩ : ∃ S, (D.seen F).length = S := ⟨_, rfl⟩
      rw [hS] at cv ⊢
      clear hd hS h
      obtain ⟨hf1, hf2⟩ := hf
      rcases (show F = 0 ∨ F = 1 by omega) with rfl | rfl
      all_goals
        (first | rw [show ((0 : Nat) : Int) = 0 from rfl] at R | rw [show ((1 : Nat) : Int) = 1 from rfl] at R)
        go_enter Try.func55, Try.ntmps55
        go_wp2_with (go_at_call 96; (with_reducible refine (R.out _).mono ?_); rintro e w1 ⟨rfl, rfl⟩)
        go_ret2
        exact ⟨rfl, rfl⟩
  · rw [fitsB_no (fun h => hf ⟨h.1, h.2.1⟩)] at R
    have E := Lib.hid (show D.sizeN f = 0 ∧ D.sizeE f = 1 from ⟨if_neg (fun h => hf ⟨h.1, h.2.1⟩), if_neg hf⟩)
    rw [E.out.1, E.out.2]
    clear hf
    go_enter Try.func55, Try.ntmps55
    go_wp2_with (go_at_call 96; (with_reducible refine (R.out _).mono ?_); rintro e w1 ⟨rfl, rfl⟩)
    go_ret2
    exact ⟨rfl, rfl⟩

set_option maxRecDepth 100000 in
set_option maxHeartbeats 3200000 in
theorem disk_Read (g : Nat) (D : Dk) (b : List (Option Nat)) (f a n : Int) (w : World) (h : DP w b g D) (hok : D.ok) : Calls Try.prog 49 #[.pointer (some ⟨g, 0, none⟩), .int .i64 f, .int .i64 a, .int .i64 n] w fun e w' => e = .returned (.tuple #[.string (D.readS f a n), .int .i64 (D.readE f a n)]) ∧ w = w' := by
  obtain ⟨c6, cz, _⟩ := h.down
  have R := Lib.hid (fun w1 => disk_right f a n w1)
  by_cases hf : fitsF f a n
  · rw [fitsB_yes hf] at R
    cases hd : D.down with
    | true =>
      have E := Lib.hid (show D.readS f a n = ⟨#[]⟩ ∧ D.readE f a n = 2 from ⟨if_neg (fun h => by rw [hd] at h; exact absurd h.2.1 (by decide)), by unfold Dk.readE; rw [if_pos hf, if_pos hd]⟩)
      rw [E.out.1, E.out.2]
      rw [hd] at c6
      clear hd
      go_enter Try.func49, Try.ntmps49
      go_wp2_with (go_at_call 96; (with_reducible refine (R.out _).mono ?_); rintro e w1 ⟨rfl, rfl⟩)
      go_ret2
      exact ⟨rfl, rfl⟩
    | false =>
      obtain ⟨f1, f2, f3, f4, f5, f6⟩ := hf
      have HF : Hid (fitsF f a n) := ⟨f1, f2, f3, f4, f5, f6⟩
      obtain ⟨F, rfl⟩ : ∃ F : Nat, f = F := ⟨f.toNat, by omega⟩
      obtain ⟨a, rfl⟩ : ∃ F : Nat, a = F := ⟨a.toNat, by omega⟩
      obtain ⟨n, rfl⟩ : ∃ F : Nat, n = F := ⟨n.toNat, by omega⟩
      rw [hd] at c6
      obtain ⟨v, A, c, cv, rfl, ho⟩ := h.seen F (by omega)
      have hsl := hok.seen F
      obtain ⟨S, hS⟩ : ∃ S, (D.seen F).length = S := ⟨_, rfl⟩
      by_cases hfit : a + n ≤ (D.seen F).length
      · have E := Lib.hid (show D.readS F a n = bsOf (((D.seen F).drop a).take n) ∧ D.readE F a n = 0 from ⟨if_pos ⟨HF.out, hd, by simpa using (by omega : (a : Int) + n ≤ (D.seen F).length)⟩, by unfold Dk.readE; rw [if_pos HF.out, if_neg (by rw [hd]; decide), if_pos (by simpa using (by omega : (a : Int) + n ≤ (D.seen F).length))]⟩)
        rw [E.out.1, E.out.2]
        obtain ⟨dp, k, hs, hb⟩ := slice_mid ho hfit
        have hcv := conv_BS (c := k) hb
        obtain ⟨T, hT⟩ : ∃ T, bsOf (((D.seen F).drop a).take n) = T := ⟨_, rfl⟩
        rw [hT] at hcv ⊢
        rw [hS] at cv hs hfit hsl
        clear hd hS h ho hb hT
        rcases (show F = 0 ∨ F = 1 by omega) with rfl | rfl
        all_goals
          (first | rw [show ((0 : Nat) : Int) = 0 from rfl] at R | rw [show ((1 : Nat) : Int) = 1 from rfl] at R)
          go_enter Try.func49, Try.ntmps49
          go_wp2_with (go_at_call 96; (with_reducible refine (R.out _).mono ?_); rintro e w1 ⟨rfl, rfl⟩)
          go_ret2
          exact ⟨rfl, rfl⟩
      · have E := Lib.hid (show D.readS F a n = ⟨#[]⟩ ∧ D.readE F a n = 3 from ⟨if_neg (fun h => hfit (by have := h.2.2; simp at this; omega)), by unfold Dk.readE; rw [if_pos HF.out, if_neg (by rw [hd]; decide), if_neg (fun h => hfit (by simp at h; omega))]⟩)
        rw [E.out.1, E.out.2]
        rw [hS] at cv hfit hsl
        clear hd hS h ho
        rcases (show F = 0 ∨ F = 1 by omega) with rfl | rfl
        all_goals
          (first | rw [show ((0 : Nat) : Int) = 0 from rfl] at R | rw [show ((1 : Nat) : Int) = 1 from rfl] at R)
          go_enter Try.func49, Try.ntmps49
          go_wp2_with (go_at_call 96; (with_reducible refine (R.out _).mono ?_); rintro e w1 ⟨rfl, rfl⟩)
          go_ret2
          exact ⟨rfl, rfl⟩
  · rw [fitsB_no hf] at R
    have E := Lib.hid (show D.readS f a n = ⟨#[]⟩ ∧ D.readE f a n = 1 from ⟨if_neg (fun h => hf h.1), if_neg hf⟩)
    rw [E.out.1, E.out.2]
    clear hf
    go_enter Try.func49, Try.ntmps49
    go_wp2_with (go_at_call 96; (with_reducible refine (R.out _).mono ?_); rintro e w1 ⟨rfl, rfl⟩)
    go_ret2
    exact ⟨rfl, rfl⟩

def Dk.new : Dk := ⟨[], [], [], -1, false, 0⟩
theorem Dk.new_ok : Dk.new.ok := ⟨by decide, by decide, (fun c hc => by cases hc), by show -1 ≤ (-1 : Int) ∧ (-1 : Int) ≤ 9223372036854775807; omega⟩
/-- a new disk lies at a block that is new -/
def NewPost (w : World) (e : Ending) (w' : World) : Prop := ∃ g b, e = .returned (.pointer (some ⟨g, 0, none⟩)) ∧ DP w' b g Dk.new ∧ Turn [] b w w'
set_option maxHeartbeats 400000 in
theorem disk_New (w : World) : Calls Try.prog 7 #[] w (NewPost w) := by
  go_enter Try.func7, Try.ntmps7
  go_wp2_with fail
  go_ret
  refine ⟨_, _, rfl, ⟨.slice none 0 0, .slice none 0 0, .slice none 0 0, .slice none 0 0, .slice none 0 0, rfl, ⟨Has.new _ _ _, fun r hr => ?_, ?_⟩⟩, ?_⟩
  · simp only [dRows, List.mem_cons, List.mem_nil_iff, or_false] at hr
    rcases hr with rfl | rfl | rfl | rfl | rfl <;> exact World.ownsRow_nil _ _ _ _
  · simp [Apart, blks, dRows, rowB, rowC, Value.ownBlock]
  · refine ⟨rfl, rfl, rfl, by simp, fun k hk _ => Below.heap_alloc _ _ _ hk, fun k hk => ?_⟩
    simp [blks, dRows, rowB, rowC, Value.ownBlock] at hk
    exact .inr (by omega)

end Go.Proofs.Ytjihboddejaelaa
