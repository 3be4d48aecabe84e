/-
  The reference's disk (2): Seen, turn, Read, Size, Fail, act, Write, Cut, NewDisk.
-/
import Derived.Test.YtjihboddejaelaaDiskR1
import Derived.Test.YtjihboddejaelaaDisk5
namespace Go.Proofs.Ytjihboddejaelaa
open Go.RowKit
open Go.BigFrame
set_option linter.unusedVariables false
set_option linter.unusedSimpArgs false

def rowA (v : Value) (ws : List Ch) : Row := ⟨v, 124, 4, ws.length, chCells ws⟩
def rCells (l0 l1 : List UInt8) (fs : Int) (dn : Bool) (ct : Nat) (vw : Value) : Array Value := #[.string (bsOf l0), .string (bsOf l1), vw, .int .i64 fs, .bool dn, .int .i64 ct]
/-- the reference's disk at block r, in blocks b -/
def RPx (w : World) (b : List (Option Nat)) (r : Nat) (l0 l1 : List UInt8) (ws : List Ch) (fs : Int) (dn : Bool) (ct : Nat) : Prop :=
  ∃ vw, b = blks r [rowA vw ws] ∧ Ob w r 91 (rCells l0 l1 fs dn ct vw) [rowA vw ws]
def RP (w : World) (b : List (Option Nat)) (r : Nat) (D : Dk) : Prop := RPx w b r D.l0 D.l1 D.waits D.fails D.down D.count
def RPost (w : World) (b : List (Option Nat)) (r : Nat) (D' : Dk) (v : Value) (e : Ending) (w' : World) : Prop :=
  e = .returned v ∧ ∃ b', RP w' b' r D' ∧ Turn b b' w w'
section
variable {w w' : World} {b : List (Option Nat)} {r : Nat} {D : Dk} {t : TypeId} {a0 a1 a2 a3 a4 a5 : Value}
theorem Has.cells6 (h : Has w r t #[a0, a1, a2, a3, a4, a5]) : w.cell? ⟨r, 0, none⟩ = some a0 ∧ w.cell? ⟨r, 1, none⟩ = some a1 ∧ w.cell? ⟨r, 2, none⟩ = some a2 ∧ w.cell? ⟨r, 3, none⟩ = some a3 ∧ w.cell? ⟨r, 4, none⟩ = some a4 ∧ w.cell? ⟨r, 5, none⟩ = some a5 :=
  ⟨h.cell 0, h.cell 1, h.cell 2, h.cell 3, h.cell 4, h.cell 5⟩
theorem RP.below (h : RP w b r D) (hb : Below w.heap.size w w') : RP w' b r D := by
  obtain ⟨v, h1, h2⟩ := h
  exact ⟨v, h1, h2.below hb⟩
theorem RP.lt (h : RP w b r D) {k : Nat} (hk : some k ∈ b) : k < w.heap.size := by
  obtain ⟨v, rfl, h2⟩ := h
  exact h2.lt hk
theorem RPost.refl {v : Value} (h : RP w b r D) : RPost w b r D v (.returned v) w := ⟨rfl, b, h, Turn.refl _ _⟩
end
theorem extr_mid (l : List UInt8) (a n : Nat) : (bsOf l).extract a (a + n) = bsOf ((l.drop a).take n) := by
  apply ByteArray.ext; apply Array.toList_inj.1
  rw [Lib.extract_data, bsOf_data, bsOf_data]
  have e : a + n - a = n := by omega
  rw [e]
theorem seenL_step {ws : List Ch} {i : Nat} (hi : i < ws.length) (f : Nat) (l : List UInt8) : seenL (ws.take (i + 1)) f l = if ws[i].file = f then ws[i].done (seenL (ws.take i) f l) else seenL (ws.take i) f l := by
  rw [List.take_succ_eq_append_getElem hi, seenL_snoc]

set_option maxRecDepth 100000 in
set_option maxHeartbeats 3200000 in
theorem refd_Seen (r : Nat) (D : Dk) (b : List (Option Nat)) (f : Nat) (w : World) (h : RP w b r D) (hok : D.ok) (hf : f < 2) (hws : D.waits.length ≤ 1000000000) :
    Calls Try.prog 62 #[.pointer (some ⟨r, 0, none⟩), .int .i64 f] w fun e w' => e = .returned (.string (bsOf (D.seen f))) ∧ Below w.heap.size w w' := by
  obtain ⟨vw, rfl, hO⟩ := h
  obtain ⟨A4, k4, rfl, hnc, hcs⟩ := CS.of_own (show w.ownsRow 0 124 4 vw D.waits.length (chCells D.waits) from hO.own 0 rfl)
  have HCS := Lib.hid hcs
  have OK := Lib.hid hok
  obtain ⟨c0, c1, c2, c3, c4, c5⟩ := hO.has.cells6
  have cz := hO.has.lt
  clear hO hok hcs
  rcases (show f = 0 ∨ f = 1 by omega) with rfl | rfl
  · obtain ⟨S0, hS0⟩ : ∃ S, bsOf D.l0 = S := ⟨_, rfl⟩
    rw [hS0] at c0
    have HS0 := Lib.hid hS0
    clear hS0
    rw [show ((0 : Nat) : Int) = 0 from rfl]
    go_enter Try.func62, Try.ntmps62
    go_wp2_with fail
    go_loopw [5, 19] (fun v5 v19 wr => ∃ (i : Nat) (S : ByteArray), i ≤ D.waits.length ∧ v19 = .int .i64 i ∧ v5 = .string S ∧ bsOf (seenL (D.waits.take i) 0 D.l0) = S ∧ Below w.heap.size w wr) (fun _ v19 _ => D.waits.length - (intOf v19).toNat)
    case atStart => exact ⟨0, S0, Nat.zero_le _, rfl, rfl, HS0.out, Below.refl _ _⟩
    case round =>
      obtain ⟨i, S, hin, rfl, rfl, hS, hb⟩ := hrel
      have HB := Lib.hid hb
      have HS := Lib.hid hS
      clear hb hS
      by_cases hi2 : i < D.waits.length
      · obtain ⟨b4, o4, rfl, hb4, hcc⟩ := HCS.out.2 (by omega)
        obtain ⟨a0, a1, a2, a3⟩ := hcc i D.waits[i] (by simp [hi2])
        obtain ⟨wcl, wfl⟩ := bcell HB.out
        have d0 := (wcl b4 (o4 + i * 4) hb4).trans a0
        have d1 := (wcl b4 (o4 + i * 4 + 1) hb4).trans a1
        have d2 := (wcl b4 (o4 + i * 4 + 2) hb4).trans a2
        have d3 := (wcl b4 (o4 + i * 4 + 3) hb4).trans a3
        have zz : b4 < wr.heap.size := by have := HB.out.size; omega
        have ST := Lib.hid (seenL_step hi2 0 D.l0)
        have FX := Lib.hid (OK.out.waits D.waits[i] (List.getElem_mem hi2))
        have LL := Lib.hid (seenL_fits (D.waits.take i) 0 D.l0 (fun c hc => OK.out.waits c (List.mem_of_mem_take hc)) OK.out.l0)
        obtain ⟨x, hx⟩ : ∃ x, D.waits[i] = x := ⟨_, rfl⟩
        simp only [hx] at d0 d1 d2 d3 ST FX
        clear hcc a0 a1 a2 a3 wcl wfl hx
        by_cases hxf : x.file = 0
        · have xe : (x.file : Int) = 0 := by omega
          have T := Lib.hid (fun w1 => ref_on x (seenL (D.waits.take i) 0 D.l0) LL.out FX.out w1)
          have E := Lib.hid (show seenL (D.waits.take (i + 1)) 0 D.l0 = x.done (seenL (D.waits.take i) 0 D.l0) by rw [ST.out, if_pos hxf])
          unfold actVal at T
          rw [xe, HS.out] at T
          clear hxf ST
          go_wp2_with (go_at_call 83; (with_reducible refine (T.out _).mono ?_); rintro e w1 ⟨rfl, hb1⟩)
          have HB1 := Lib.hid (bel_step (HB.out.alloc HB.out.size _) hb1 (Nat.le_trans HB.out.size (by simp)))
          clear hb1
          go_roundw
          case rel => exact ⟨i + 1, _, by omega, by simp, rfl, by rw [E.out], HB1.out⟩
          case measure => simp [intOf]; omega
        · have xe : ((x.file : Int) == 0) = false := by rw [beq_eq_false_iff_ne]; omega
          have E := Lib.hid (show seenL (D.waits.take (i + 1)) 0 D.l0 = seenL (D.waits.take i) 0 D.l0 by rw [ST.out, if_neg hxf])
          clear hxf ST
          go_wp2_with fail
          go_roundw
          case rel => exact ⟨i + 1, S, by omega, by simp, rfl, by rw [E.out, HS.out], HB.out.alloc HB.out.size _⟩
          case measure => simp [intOf]; omega
      · obtain rfl : i = D.waits.length := by omega
        have E := Lib.hid (show S = bsOf (D.seen 0) by rw [← HS.out, List.take_length]; rfl)
        go_wp2_with fail
        go_ret
        exact ⟨by rw [← E.out]; rfl, HB.out⟩
  · obtain ⟨S0, hS0⟩ : ∃ S, bsOf D.l1 = S := ⟨_, rfl⟩
    rw [hS0] at c1
    have HS0 := Lib.hid hS0
    clear hS0
    rw [show ((1 : Nat) : Int) = 1 from rfl]
    go_enter Try.func62, Try.ntmps62
    go_wp2_with fail
    go_loopw [5, 19] (fun v5 v19 wr => ∃ (i : Nat) (S : ByteArray), i ≤ D.waits.length ∧ v19 = .int .i64 i ∧ v5 = .string S ∧ bsOf (seenL (D.waits.take i) 1 D.l1) = S ∧ Below w.heap.size w wr) (fun _ v19 _ => D.waits.length - (intOf v19).toNat)
    case atStart => exact ⟨0, S0, Nat.zero_le _, rfl, rfl, HS0.out, Below.refl _ _⟩
    case round =>
      obtain ⟨i, S, hin, rfl, rfl, hS, hb⟩ := hrel
      have HB := Lib.hid hb
      have HS := Lib.hid hS
      clear hb hS
      by_cases hi2 : i < D.waits.length
      · obtain ⟨b4, o4, rfl, hb4, hcc⟩ := HCS.out.2 (by omega)
        obtain ⟨a0, a1, a2, a3⟩ := hcc i D.waits[i] (by simp [hi2])
        obtain ⟨wcl, wfl⟩ := bcell HB.out
        have d0 := (wcl b4 (o4 + i * 4) hb4).trans a0
        have d1 := (wcl b4 (o4 + i * 4 + 1) hb4).trans a1
        have d2 := (wcl b4 (o4 + i * 4 + 2) hb4).trans a2
        have d3 := (wcl b4 (o4 + i * 4 + 3) hb4).trans a3
        have zz : b4 < wr.heap.size := by have := HB.out.size; omega
        have ST := Lib.hid (seenL_step hi2 1 D.l1)
        have FX := Lib.hid (OK.out.waits D.waits[i] (List.getElem_mem hi2))
        have LL := Lib.hid (seenL_fits (D.waits.take i) 1 D.l1 (fun c hc => OK.out.waits c (List.mem_of_mem_take hc)) OK.out.l1)
        obtain ⟨x, hx⟩ : ∃ x, D.waits[i] = x := ⟨_, rfl⟩
        simp only [hx] at d0 d1 d2 d3 ST FX
        clear hcc a0 a1 a2 a3 wcl wfl hx
        by_cases hxf : x.file = 1
        · have xe : (x.file : Int) = 1 := by omega
          have T := Lib.hid (fun w1 => ref_on x (seenL (D.waits.take i) 1 D.l1) LL.out FX.out w1)
          have E := Lib.hid (show seenL (D.waits.take (i + 1)) 1 D.l1 = x.done (seenL (D.waits.take i) 1 D.l1) by rw [ST.out, if_pos hxf])
          unfold actVal at T
          rw [xe, HS.out] at T
          clear hxf ST
          go_wp2_with (go_at_call 83; (with_reducible refine (T.out _).mono ?_); rintro e w1 ⟨rfl, hb1⟩)
          have HB1 := Lib.hid (bel_step (HB.out.alloc HB.out.size _) hb1 (Nat.le_trans HB.out.size (by simp)))
          clear hb1
          go_roundw
          case rel => exact ⟨i + 1, _, by omega, by simp, rfl, by rw [E.out], HB1.out⟩
          case measure => simp [intOf]; omega
        · have xe : ((x.file : Int) == 1) = false := by rw [beq_eq_false_iff_ne]; omega
          have E := Lib.hid (show seenL (D.waits.take (i + 1)) 1 D.l1 = seenL (D.waits.take i) 1 D.l1 by rw [ST.out, if_neg hxf])
          clear hxf ST
          go_wp2_with fail
          go_roundw
          case rel => exact ⟨i + 1, S, by omega, by simp, rfl, by rw [E.out, HS.out], HB.out.alloc HB.out.size _⟩
          case measure => simp [intOf]; omega
      · obtain rfl : i = D.waits.length := by omega
        have E := Lib.hid (show S = bsOf (D.seen 1) by rw [← HS.out, List.take_length]; rfl)
        go_wp2_with fail
        go_ret
        exact ⟨by rw [← E.out]; rfl, HB.out⟩

set_option maxRecDepth 100000 in
set_option maxHeartbeats 1600000 in
theorem refd_turn (r : Nat) (D : Dk) (b : List (Option Nat)) (w : World) (h : RP w b r D) (hok : D.ok) (hc : D.count ≤ 4000000000000000000) :
    Calls Try.prog 101 #[.pointer (some ⟨r, 0, none⟩)] w (RPost w b r D.turn (.int .i64 D.turnE)) := by
  obtain ⟨vw, rfl, hO⟩ := h
  have HOb := Lib.hid hO
  obtain ⟨c0, c1, c2, c3, c4, c5⟩ := hO.has.cells6
  have cf := hO.has.frozen
  have cz := hO.has.lt
  have hfl := hok.fails
  obtain ⟨l0, l1, ws, fs, dn, ct⟩ := D
  simp only at c3 c4 c5 hfl hc
  clear hO
  obtain ⟨hf1, hf2⟩ := hfl
  cases dn with
  | true =>
    have E := Lib.hid (show Dk.turn ⟨l0, l1, ws, fs, true, ct⟩ = ⟨l0, l1, ws, fs, true, ct⟩ ∧ Dk.turnE ⟨l0, l1, ws, fs, true, ct⟩ = 2 from ⟨if_pos (.inl rfl), if_pos (.inl rfl)⟩)
    rw [E.out.1, E.out.2]
    go_enter Try.func101, Try.ntmps101
    go_wp2_with fail
    go_ret
    exact ⟨rfl, _, ⟨vw, rfl, HOb.out.set 4 (.bool true)⟩, Turn.set _ _ _ _ _⟩
  | false =>
    by_cases f0 : fs = 0
    · have E := Lib.hid (show Dk.turn ⟨l0, l1, ws, fs, false, ct⟩ = ⟨l0, l1, ws, fs, true, ct⟩ ∧ Dk.turnE ⟨l0, l1, ws, fs, false, ct⟩ = 2 from ⟨if_pos (.inr f0), if_pos (.inr f0)⟩)
      rw [E.out.1, E.out.2]
      subst f0
      go_enter Try.func101, Try.ntmps101
      go_wp2_with fail
      go_ret
      exact ⟨rfl, _, ⟨vw, rfl, HOb.out.set 4 (.bool true)⟩, Turn.set _ _ _ _ _⟩
    · have hst : ¬ Dk.stops ⟨l0, l1, ws, fs, false, ct⟩ := fun h => h.elim (fun h => by cases h) f0
      have E := Lib.hid (show Dk.turn ⟨l0, l1, ws, fs, false, ct⟩ = ⟨l0, l1, ws, if 0 < fs then fs - 1 else fs, false, ct + 1⟩ ∧ Dk.turnE ⟨l0, l1, ws, fs, false, ct⟩ = 0 from ⟨if_neg hst, if_neg hst⟩)
      rw [E.out.1, E.out.2]
      have fe : (fs == 0) = false := by rw [beq_eq_false_iff_ne]; exact f0
      clear hst f0
      by_cases f1 : 0 < fs
      · rw [if_pos f1]
        go_enter Try.func101, Try.ntmps101
        go_wp2_with fail
        go_ret
        refine ⟨rfl, _, ⟨vw, rfl, ?_⟩, (Turn.set _ _ 3 (.int .i64 (fs - 1)) _).trans (Turn.set _ _ 5 (.int .i64 ((ct : Int) + 1)) _)⟩
        exact (HOb.out.set 3 (.int .i64 (fs - 1))).set 5 (.int .i64 ((ct : Int) + 1))
      · rw [if_neg f1]
        go_enter Try.func101, Try.ntmps101
        go_wp2_with fail
        go_ret
        refine ⟨rfl, _, ⟨vw, rfl, ?_⟩, Turn.set _ _ 5 (.int .i64 ((ct : Int) + 1)) _⟩
        exact HOb.out.set 5 (.int .i64 ((ct : Int) + 1))
theorem RP.cells {w : World} {b : List (Option Nat)} {r : Nat} {D : Dk} (h : RP w b r D) : w.cell? ⟨r, 4, none⟩ = some (.bool D.down) ∧ w.cell? ⟨r, 5, none⟩ = some (.int .i64 D.count) ∧ (∃ A c, w.cell? ⟨r, 2, none⟩ = some (.slice A D.waits.length c)) ∧ r < w.heap.size := by
  obtain ⟨v, rfl, hO⟩ := h
  obtain ⟨c0, c1, c2, c3, c4, c5⟩ := hO.has.cells6
  obtain ⟨A, c, hv, _⟩ := own_form (hO.own 0 rfl)
  exact ⟨c4, c5, ⟨A, c, by rw [c2]; exact congrArg some hv⟩, hO.has.lt⟩
theorem fitsR_yes {f a n : Int} (h : fitsF f a n) : fitsR f a n = true := decide_eq_true h
theorem fitsR_no {f a n : Int} (h : ¬ fitsF f a n) : fitsR f a n = false := decide_eq_false h
set_option maxRecDepth 100000 in
set_option maxHeartbeats 3200000 in
theorem refd_Read (r : Nat) (D : Dk) (b : List (Option Nat)) (f a n : Int) (w : World) (h : RP w b r D) (hok : D.ok) (hws : D.waits.length ≤ 1000000000) : Calls Try.prog 50 #[.pointer (some ⟨r, 0, none⟩), .int .i64 f, .int .i64 a, .int .i64 n] w fun e w' => e = .returned (.tuple #[.string (D.readS f a n), .int .i64 (D.readE f a n)]) ∧ Below w.heap.size w w' := by
  obtain ⟨c4, _, _, cz⟩ := h.cells
  have R := Lib.hid (fun w1 => ref_fits f a n w1)
  by_cases hf : fitsF f a n
  · rw [fitsR_yes hf] at R
    cases hd : D.down with
    | true =>
      have E := Lib.hid (show D.readS f a n = ⟨#[]⟩ ∧ D.readE f a n = 2 from ⟨if_neg (fun h => by rw [hd] at h; exact absurd h.2.1 (by decide)), by unfold Dk.readE; rw [if_pos hf, if_pos hd]⟩)
      rw [E.out.1, E.out.2]
      rw [hd] at c4
      clear hd
      go_enter Try.func50, Try.ntmps50
      go_wp2_with (go_at_call 97; (with_reducible refine (R.out _).mono ?_); rintro e w1 ⟨rfl, rfl⟩)
      go_ret2
      exact ⟨rfl, Below.refl _ _⟩
    | false =>
      obtain ⟨f1, f2, f3, f4, f5, f6⟩ := hf
      have HF : Hid (fitsF f a n) := ⟨f1, f2, f3, f4, f5, f6⟩
      obtain ⟨F, rfl⟩ : ∃ F : Nat, f = F := ⟨f.toNat, by omega⟩
      obtain ⟨a, rfl⟩ : ∃ F : Nat, a = F := ⟨a.toNat, by omega⟩
      obtain ⟨n, rfl⟩ : ∃ F : Nat, n = F := ⟨n.toNat, by omega⟩
      rw [hd] at c4
      have hsl := hok.seen F
      have T := Lib.hid (fun w1 (h1 : RP w1 b r D) => refd_Seen r D b F w1 h1 hok (by omega) hws)
      obtain ⟨S, hS⟩ : ∃ S, bsOf (D.seen F) = S := ⟨_, rfl⟩
      have hsz : S.size = (D.seen F).length := by rw [← hS, bsOf_size]
      rw [hS] at T
      have HH := Lib.hid h
      by_cases hfit : a + n ≤ (D.seen F).length
      · have E := Lib.hid (show D.readS F a n = S.extract a (a + n) ∧ D.readE F a n = 0 from ⟨(if_pos ⟨HF.out, hd, by simpa using (by omega : (a : Int) + n ≤ (D.seen F).length)⟩).trans (by rw [← hS]; exact (extr_mid _ a n).symm), by unfold Dk.readE; rw [if_pos HF.out, if_neg (by rw [hd]; decide), if_pos (by simpa using (by omega : (a : Int) + n ≤ (D.seen F).length))]⟩)
        rw [E.out.1, E.out.2]
        have h2 : a + n ≤ S.size := by omega
        have h3 : S.size ≤ 67108864 := by omega
        clear hd hS h hsz hfit hsl
        go_enter Try.func50, Try.ntmps50
        go_wp2_with (first | (go_at_call 97; (with_reducible refine (R.out _).mono ?_); rintro e w1 ⟨rfl, rfl⟩) | (go_at_call 62; (with_reducible refine (T.out _ HH.out).mono ?_); rintro e w1 ⟨rfl, hb1⟩))
        go_ret2
        exact ⟨rfl, hb1⟩
      · have E := Lib.hid (show D.readS F a n = ⟨#[]⟩ ∧ D.readE F a n = 3 from ⟨if_neg (fun h => hfit (by have := h.2.2; simp at this; omega)), by unfold Dk.readE; rw [if_pos HF.out, if_neg (by rw [hd]; decide), if_neg (fun h => hfit (by simp at h; omega))]⟩)
        rw [E.out.1, E.out.2]
        have h2 : ¬ a + n ≤ S.size := by omega
        have h3 : S.size ≤ 67108864 := by omega
        clear hd hS h hsz hfit hsl
        go_enter Try.func50, Try.ntmps50
        go_wp2_with (first | (go_at_call 97; (with_reducible refine (R.out _).mono ?_); rintro e w1 ⟨rfl, rfl⟩) | (go_at_call 62; (with_reducible refine (T.out _ HH.out).mono ?_); rintro e w1 ⟨rfl, hb1⟩))
        go_ret2
        exact ⟨rfl, hb1⟩
  · rw [fitsR_no hf] at R
    have E := Lib.hid (show D.readS f a n = ⟨#[]⟩ ∧ D.readE f a n = 1 from ⟨if_neg (fun h => hf h.1), if_neg hf⟩)
    rw [E.out.1, E.out.2]
    clear hf
    go_enter Try.func50, Try.ntmps50
    go_wp2_with (go_at_call 97; (with_reducible refine (R.out _).mono ?_); rintro e w1 ⟨rfl, rfl⟩)
    go_ret2
    exact ⟨rfl, Below.refl _ _⟩
set_option maxRecDepth 100000 in
set_option maxHeartbeats 1600000 in
theorem refd_Size (r : Nat) (D : Dk) (b : List (Option Nat)) (f : Int) (w : World) (h : RP w b r D) (hok : D.ok) (hws : D.waits.length ≤ 1000000000) : Calls Try.prog 56 #[.pointer (some ⟨r, 0, none⟩), .int .i64 f] w fun e w' => e = .returned (.tuple #[.int .i64 (D.sizeN f), .int .i64 (D.sizeE f)]) ∧ Below w.heap.size w w' := by
  obtain ⟨c4, _, _, cz⟩ := h.cells
  have R := Lib.hid (fun w1 => ref_inB f 0 1 w1)
  by_cases hf : 0 ≤ f ∧ f < 2
  · rw [inB_yes hf.1 (by omega)] at R
    obtain ⟨F, rfl⟩ : ∃ F : Nat, f = F := ⟨f.toNat, by omega⟩
    cases hd : D.down with
    | true =>
      have E := Lib.hid (show D.sizeN F = 0 ∧ D.sizeE F = 2 from ⟨if_neg (fun h => by rw [hd] at h; exact absurd h.2.2 (by decide)), by unfold Dk.sizeE; rw [if_pos hf, if_pos hd]⟩)
      rw [E.out.1, E.out.2]
      rw [hd] at c4
      clear hd
      go_enter Try.func56, Try.ntmps56
      go_wp2_with (go_at_call 80; (with_reducible refine (R.out _).mono ?_); rintro e w1 ⟨rfl, rfl⟩)
      go_ret2
      exact ⟨rfl, Below.refl _ _⟩
    | false =>
      have T := Lib.hid (fun w1 (h1 : RP w1 b r D) => refd_Seen r D b F w1 h1 hok (by omega) hws)
      obtain ⟨S, hS⟩ : ∃ S, bsOf (D.seen F) = S := ⟨_, rfl⟩
      have E := Lib.hid (show D.sizeN F = S.size ∧ D.sizeE F = 0 from ⟨(if_pos ⟨hf.1, hf.2, hd⟩).trans (by rw [← hS, bsOf_size]; rfl), by unfold Dk.sizeE; rw [if_pos hf, if_neg (by rw [hd]; decide)]⟩)
      rw [E.out.1, E.out.2]
      rw [hS] at T
      rw [hd] at c4
      have HH := Lib.hid h
      clear hd hS h
      go_enter Try.func56, Try.ntmps56
      go_wp2_with (first | (go_at_call 80; (with_reducible refine (R.out _).mono ?_); rintro e w1 ⟨rfl, rfl⟩) | (go_at_call 62; (with_reducible refine (T.out _ HH.out).mono ?_); rintro e w1 ⟨rfl, hb1⟩))
      go_ret2
      exact ⟨rfl, hb1⟩
  · rw [inB_no (by omega)] at R
    have E := Lib.hid (show D.sizeN f = 0 ∧ D.sizeE f = 1 from ⟨if_neg (fun h => hf ⟨h.1, h.2.1⟩), if_neg hf⟩)
    rw [E.out.1, E.out.2]
    clear hf
    go_enter Try.func56, Try.ntmps56
    go_wp2_with (go_at_call 80; (with_reducible refine (R.out _).mono ?_); rintro e w1 ⟨rfl, rfl⟩)
    go_ret2
    exact ⟨rfl, Below.refl _ _⟩
set_option maxHeartbeats 400000 in
theorem refd_Fail (r : Nat) (D : Dk) (b : List (Option Nat)) (n : Int) (w : World) (h : RP w b r D) : Calls Try.prog 35 #[.pointer (some ⟨r, 0, none⟩), .int .i64 n] w (RPost w b r (D.fail n) (.tuple #[])) := by
  obtain ⟨vw, rfl, hO⟩ := h
  have HOb := Lib.hid hO
  obtain ⟨c0, c1, c2, c3, c4, c5⟩ := hO.has.cells6
  have cf := hO.has.frozen
  have cz := hO.has.lt
  clear hO
  by_cases hn : n < 0
  · have E := Lib.hid (show D.fail n = { D with fails := -1 } by unfold Dk.fail; rw [if_pos hn])
    rw [E.out]
    go_enter Try.func35, Try.ntmps35
    go_wp2_with fail
    go_end0
    exact ⟨rfl, _, ⟨vw, rfl, (HOb.out.set 3 (.int .i64 n)).set 3 (.int .i64 (-1))⟩, (Turn.set _ _ _ _ _).trans (Turn.set _ _ _ _ _)⟩
  · have E := Lib.hid (show D.fail n = { D with fails := n } by unfold Dk.fail; rw [if_neg hn])
    rw [E.out]
    go_enter Try.func35, Try.ntmps35
    go_wp2_with fail
    go_end0
    exact ⟨rfl, _, ⟨vw, rfl, HOb.out.set 3 (.int .i64 n)⟩, Turn.set _ _ _ _ _⟩
/-- the reference's new disk lies at a block that is new -/
def NewPostR (w : World) (e : Ending) (w' : World) : Prop := ∃ r b, e = .returned (.pointer (some ⟨r, 0, none⟩)) ∧ RP w' b r Dk.new ∧ Turn [] b w w'
set_option maxHeartbeats 400000 in
theorem refd_New (w : World) : Calls Try.prog 8 #[] w (NewPostR w) := by
  go_enter Try.func8, Try.ntmps8
  go_wp2_with fail
  go_ret
  refine ⟨_, _, rfl, ⟨.slice none 0 0, rfl, ⟨Has.new _ _ _, fun r hr => ?_, ?_⟩⟩, ?_⟩
  · simp only [List.mem_cons, List.mem_nil_iff, or_false] at hr
    subst hr; exact World.ownsRow_nil _ _ _ _
  · simp [Apart, blks, rowA, Value.ownBlock]
  · refine ⟨rfl, rfl, rfl, by simp, fun k hk _ => Below.heap_alloc _ _ _ hk, fun k hk => ?_⟩
    simp [blks, rowA, Value.ownBlock] at hk
    exact .inr (by omega)

end Go.Proofs.Ytjihboddejaelaa
