/-
  The law DiskRuns (1): both disks side by side; num, sameInts, files.
-/
import Derived.Test.YtjihboddejaelaaDiskR4
import Derived.Deep.RegionHeld3
namespace Go.Proofs.Ytjihboddejaelaa
open Go.RowKit
open Go.BigFrame
set_option linter.unusedVariables false
set_option linter.unusedSimpArgs false

/-- the program's disk and the reference's, apart from one another, in memory that was made since w0 -/
structure Two (w0 w : World) (g r : Nat) (b c : List (Option Nat)) (D E : Dk) : Prop where
  p : DP w b g D
  q : RP w c r E
  disj : Disj b c
  lowb : ∀ k, some k ∈ b → w0.heap.size ≤ k
  lowc : ∀ k, some k ∈ c → w0.heap.size ≤ k
  bel : Below w0.heap.size w0 w
section
variable {w0 w w' : World} {g r : Nat} {b b' c c' : List (Option Nat)} {D D' E E' : Dk}
theorem Two.step (h : Two w0 w g r b c D E) (hb : Below w.heap.size w w') : Two w0 w' g r b c D E := ⟨h.p.below hb, h.q.below hb, h.disj, h.lowb, h.lowc, bel_step h.bel hb h.bel.size⟩
theorem Two.dp (h : Two w0 w g r b c D E) (hp : DP w' b' g D') (ht : Turn b b' w w') : Two w0 w' g r b' c D' E := by
  obtain ⟨p, q, d, l1, l2, bl⟩ := h
  obtain ⟨v, rfl, hO⟩ := q
  exact ⟨hp, ⟨v, rfl, hO.far ht d⟩, hO.disj ht d, ht.low l1 bl.size, l2, ht.bel bl l1 bl.size⟩
theorem Two.rp (h : Two w0 w g r b c D E) (hq : RP w' c' r E') (ht : Turn c c' w w') : Two w0 w' g r b c' D E' := by
  obtain ⟨p, q, d, l1, l2, bl⟩ := h
  obtain ⟨v0, v1, v2, v3, v4, rfl, hO⟩ := p
  exact ⟨⟨v0, v1, v2, v3, v4, rfl, hO.far ht d.symm⟩, hq, (hO.disj ht d.symm).symm, l1, ht.low l2 bl.size, ht.bel bl l2 bl.size⟩
end
set_option maxHeartbeats 400000 in
theorem law_numS (x : Int) (w : World) : Calls Try.prog 27 #[.int .i64 x] w fun e w' => e = .returned (.int .i64 x) ∧ w = w' := by
  go_enter Try.func27, Try.ntmps27
  go_wp2
  go_ret
  exact ⟨rfl, rfl⟩
/-- some answer that leaves both disks as they are -/
def FilesPost (w : World) (e : Ending) (w' : World) : Prop := e = .returned (.bool true) ∧ Below w.heap.size w w'

theorem readS_all {D : Dk} (hok : D.ok) {f : Nat} (hf : f < 2) (hd : D.down = false) : D.readS f 0 (D.seen f).length = bsOf (D.seen f) ∧ D.readE f 0 (D.seen f).length = 0 := by
  have hl := hok.seen f
  have hF : fitsF f 0 (D.seen f).length := by unfold fitsF; omega
  refine ⟨(if_pos ⟨hF, hd, by simp⟩).trans (by simp), ?_⟩
  unfold Dk.readE
  rw [if_pos hF, if_neg (by rw [hd]; decide), if_pos (by simp)]

set_option maxRecDepth 100000 in
set_option maxHeartbeats 3200000 in
theorem law_files (w0 : World) (g r : Nat) (b c : List (Option Nat)) (D : Dk) (w : World) (h : Two w0 w g r b c D D) (hok : D.ok) (hws : D.waits.length ≤ 1000000000) :
    Calls Try.prog 11 #[.pointer (some ⟨g, 0, none⟩), .pointer (some ⟨r, 0, none⟩)] w (FilesPost w) := by
  have HH := Lib.hid h
  have OK := Lib.hid hok
  have HWS := Lib.hid hws
  clear h hok hws
  go_enter Try.func11, Try.ntmps11
  go_wp2_with fail
  go_loopw [5] (fun v5 wr => ∃ f : Nat, f ≤ 2 ∧ v5 = .int .i64 f ∧ Below w.heap.size w wr) (fun v5 _ => 2 - (intOf v5).toNat)
  case atStart => exact ⟨0, by omega, rfl, Below.refl _ _⟩
  case round =>
    obtain ⟨f, hf, rfl, hb⟩ := hrel
    have HB := Lib.hid hb
    have HT := Lib.hid (HH.out.step hb)
    clear hb HH
    by_cases hf2 : f < 2
    · have TS := Lib.hid (fun w1 (h1 : RP w1 c r D) => refd_Seen r D c f w1 h1 OK.out hf2 HWS.out)
      have TZ := Lib.hid (fun w1 (h1 : DP w1 b g D) => disk_Size g D b f w1 h1 OK.out)
      have LS := OK.out.seen f
      obtain ⟨S, hS⟩ : ∃ S, bsOf (D.seen f) = S := ⟨_, rfl⟩
      have hSZ : S.size = (D.seen f).length := by rw [← hS, bsOf_size]
      rw [hS] at TS
      have f0 : (0 : Int) ≤ (f : Int) := by omega
      have f1 : (f : Int) < 2 := by omega
      cases hd : D.down with
      | true =>
        have E1 : D.sizeN f = 0 ∧ D.sizeE f = 2 := ⟨if_neg (fun h => by rw [hd] at h; exact absurd h.2.2 (by decide)), by unfold Dk.sizeE; rw [if_pos ⟨f0, f1⟩, if_pos hd]⟩
        rw [E1.1, E1.2] at TZ
        have HD := Lib.hid hd
        clear E1 hd hS hSZ
        go_wp2_with (first | (go_at_call 62; (with_reducible refine (TS.out _ HT.out.q).mono ?_); rintro e w1 ⟨rfl, hb1⟩; have HT1 := Lib.hid (HT.out.step hb1); have HB1 := Lib.hid (bel_step HB.out hb1 HB.out.size); obtain ⟨c4, _, _, cz⟩ := HT1.out.q.cells; rw [HD.out] at c4; clear hb1) | (go_at_call 55; (with_reducible refine (TZ.out _ HT1.out.p).mono ?_); rintro e w2 ⟨rfl, rfl⟩) | (go_at_call 27; refine (law_numS _ _).mono ?_; rintro e w1 ⟨rfl, rfl⟩))
        go_ret
        exact ⟨rfl, HB1.out⟩
      | false =>
        have E1 : D.sizeN f = ((D.seen f).length : Int) ∧ D.sizeE f = 0 := ⟨if_pos ⟨f0, f1, hd⟩, by unfold Dk.sizeE; rw [if_pos ⟨f0, f1⟩, if_neg (by rw [hd]; decide)]⟩
        obtain ⟨r1, r2⟩ := readS_all OK.out hf2 hd
        have TR := Lib.hid (fun w1 (h1 : DP w1 b g D) => disk_Read g D b f 0 (D.seen f).length w1 h1 OK.out)
        rw [r1, r2, hS, ← hSZ] at TR
        rw [E1.1, E1.2, ← hSZ] at TZ
        have HD := Lib.hid hd
        have s1 : (S.toList == S.toList) = true := by simp
        clear E1 hd hS hSZ r1 r2
        go_wp2_with (first | (go_at_call 62; (with_reducible refine (TS.out _ HT.out.q).mono ?_); rintro e w1 ⟨rfl, hb1⟩; have HT1 := Lib.hid (HT.out.step hb1); have HB1 := Lib.hid (bel_step HB.out hb1 HB.out.size); obtain ⟨c4, _, _, cz⟩ := HT1.out.q.cells; rw [HD.out] at c4; clear hb1) | (go_at_call 55; (with_reducible refine (TZ.out _ HT1.out.p).mono ?_); rintro e w2 ⟨rfl, rfl⟩) | (go_at_call 49; (with_reducible refine (TR.out _ HT1.out.p).mono ?_); rintro e w2 ⟨rfl, rfl⟩) | (go_at_call 27; refine (law_numS _ _).mono ?_; rintro e w1 ⟨rfl, rfl⟩))
        go_roundw
        case rel => exact ⟨f + 1, by omega, by simp, HB1.out⟩
        case measure => simp [intOf]; omega
    · obtain rfl : f = 2 := by omega
      go_wp2_with fail
      go_ret
      exact ⟨rfl, HB.out⟩

end Go.Proofs.Ytjihboddejaelaa
