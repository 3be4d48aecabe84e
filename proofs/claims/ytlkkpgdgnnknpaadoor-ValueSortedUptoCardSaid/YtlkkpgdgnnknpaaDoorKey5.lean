/-
  Unkey of package value.
-/
import Derived.Test.YtlkkpgdgnnknpaaDoorKey4
namespace Go.Proofs.YtlkkpgdgnnknpaaDoor
open Go.RowKit
open Go.BigFrame
set_option linter.unusedVariables false
set_option linter.unusedSimpArgs false

def scLeft (w : World) (g : Nat) : Nat := match w.cell? ⟨g, 1, none⟩ with | some (.bool true) => 0 | _ => scLen w g + 1
theorem scLeft_bad {w : World} {g : Nat} {l : List UInt8} (h : Sc w g l true) : scLeft w g = 0 := by
  unfold scLeft; rw [h.cell 1]; rfl
theorem scLeft_good {w : World} {g : Nat} {l : List UInt8} (h : Sc w g l false) : scLeft w g = l.length + 1 := by
  unfold scLeft; rw [h.cell 1, scLen_of h]; rfl

set_option maxRecDepth 100000 in
set_option maxHeartbeats 6400000 in
theorem value_Unkey (l : List UInt8) (w : World) (hl : l.length ≤ 50000000) :
    Calls Tryd.prog 6 #[.string (bsOf l)] w (UnpackPost w (unkey l)) := by
  obtain ⟨i0, hi, hz0, hz1, hz2⟩ := info_parts infoValue
  have HST := Lib.hid (show St w w.heap.size (w.alloc (.cells #[.string (bsOf l), .bool false] 48)) (.slice none 0 0) l false [] from ⟨Has.new _ _ _, World.ownsRow_nil _ _ _ _, (Below.refl _ _).alloc (Nat.le_refl _) _⟩)
  have LL := Lib.hid hl
  obtain ⟨S, hS⟩ : ∃ S, bsOf l = S := ⟨_, rfl⟩
  rw [hS] at HST ⊢
  clear hS hl
  go_enter Tryd.func6, Tryd.ntmps6
  go_wp2_with fail
  go_loopw [5] (fun v5 wr => ∃ (rest : List UInt8) (bad : Bool) (vs : List Val), St w w.heap.size wr v5 rest bad vs ∧ (bad = false → KeyAt l rest vs) ∧ (bad = true → unkey l = none) ∧ (bad = false → rest.length + vs.length ≤ l.length)) (fun _ wr => scLeft wr w.heap.size)
  case atStart => exact ⟨l, false, [], HST.out, fun _ => KeyAt.start l, (fun h => by cases h), (fun _ => Nat.le_refl _)⟩
  case round =>
    clear HST
    obtain ⟨rest, bad, vs, hS, hK, hN, hL⟩ := hrel
    have HS := Lib.hid hS
    have HK := Lib.hid hK
    have HN := Lib.hid hN
    have HL := Lib.hid hL
    clear hS hK hN hL
    obtain ⟨c0, c1⟩ := HS.out.sc.cells2
    have cf := HS.out.sc.frozen
    have cz := HS.out.lt
    cases bad with
    | true =>
      have ANS := Lib.hid (HN.out rfl)
      have HB := Lib.hid HS.out.bel
      by_cases hr : 0 < (bsOf rest).size
      · go_wp2_with fail
        go_ret2
        exact UnpackPost.bad ANS.out HB.out
      · go_wp2_with fail
        go_ret2
        exact UnpackPost.bad ANS.out HB.out
    | false =>
      have HLN := Lib.hid (HL.out rfl)
      cases rest with
      | nil =>
        have ANS := Lib.hid (HK.out rfl).done
        have HO := Lib.hid (own_mono HS.out.own (Nat.le_succ _))
        have HB := Lib.hid HS.out.bel
        have z : ¬ 0 < (bsOf []).size := by decide
        go_wp2_with fail
        go_ret2
        exact UnpackPost.good ANS.out HO.out HB.out
      | cons k r =>
        have KA := Lib.hid (HK.out rfl)
        have z : 0 < (bsOf (k :: r)).size := by rw [bsOf_size]; simp
        have lr : r.length + 1 + vs.length ≤ 50000000 := by have := HLN.out; have := LL.out; simp only [List.length_cons] at *; omega
        have T1 := Lib.hid (scan_one w.heap.size k r _ HS.out.sc (by omega))
        have G1 := Lib.hid (show vs.length + 1 ≤ maxLen by unfold maxLen; omega)
        have G2 := Lib.hid (show (vs.length + 1) * 32 ≤ 140737488355328 by omega)
        go_wp2_with (first
          | (go_at_call 31; (with_reducible refine T1.out.mono ?_); rintro e w1 ⟨v, rest1, bad1, rfl, hs1, hg1, hok1, hno1⟩; have H1 := Lib.hid (HS.out.scan hs1 hg1); have GD := Lib.hid hok1; have BD := Lib.hid hno1; clear hs1 hg1 hok1 hno1)
          | ((at_builtin; refine wpList_append_src _ rfl (.tmp 22) (.tmp 25) 22 22 rfl ((w.heap.size + 1)) 38 i0 _ 3 32 Tryd.underlying22 hi hz0 hz1 hz2 zeroCellsValue (by decide) (_) (vs.length) (_) rfl ((H1.out.alloc _).own) (.slice (some ⟨_, 0, none⟩) 1 1) (1) ([.int .i64 v.k, .int .i64 v.n, .string v.s]) rfl (Src.ofSlice _ Tryd.underlying22 ⟨_, 0, none⟩ 1 1 ([.int .i64 v.k, .int .i64 v.n, .string v.s]) rfl (World.news_of_block (heap_alloc_new _ _)) (by simp [Value.oneCell'])) (G1.out) (G2.out) (Nat.succ_le_of_lt (H1.out.alloc _).lt) ?_; intro v2 w2 hown2 hg2 _ hat2); have H2 := Lib.hid ((H1.out.alloc _).app (x := v) hown2 hg2); clear hown2 hg2 hat2))
        go_roundw
        case rel =>
          refine ⟨rest1, bad1, vs ++ [v], H2.out, fun h => (KA.out.step (GD.out h)).1, fun h => KA.out.bad (by simp) (BD.out h), fun h => ?_⟩
          have q1 := (KA.out.step (GD.out h)).2
          have q2 := HLN.out
          simp only [List.length_append, List.length_cons, List.length_nil] at *
          omega
        case measure =>
          rw [scLeft_good HS.out.sc]
          cases bad1 with
          | true => rw [scLeft_bad H2.out.sc]; omega
          | false =>
            rw [scLeft_good H2.out.sc]
            have q1 := (KA.out.step (GD.out rfl)).2
            simp only [List.length_cons] at *
            omega

end Go.Proofs.YtlkkpgdgnnknpaaDoor
