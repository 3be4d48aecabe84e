/-
  done of package wal: functions in turns, up to the first one that fails.
-/
import Derived.Test.YtjihboddejaelaaLog3
namespace Go.Proofs.Ytjihboddejaelaa
open Go.RowKit
open Go.BigFrame
set_option linter.unusedVariables false
set_option linter.unusedSimpArgs false

/-- what a function that done calls leaves: the next state, or an error's state -/
def Step (S : World → Prop) (Q : Int → World → Prop) (e : Ending) (w' : World) : Prop := ∃ r : Int, e = .returned (.int .i64 r) ∧ ((r = 0 ∧ S w') ∨ (r ≠ 0 ∧ Q r w'))
def DoneQ (Q : Int → World → Prop) (e : Ending) (w' : World) : Prop := ∃ r : Int, e = .returned (.int .i64 r) ∧ Q r w'

set_option maxRecDepth 100000 in
set_option maxHeartbeats 1600000 in
theorem wal_done (fs : List (FuncId × Array Value)) (g n : Nat) (w : World) (S : Nat → World → Prop) (Q : Int → World → Prop) (hn : fs.length = n) (hn4 : n ≤ 4)
    (hcell : ∀ i u, S i u → ∀ j k cs, fs[j]? = some (k, cs) → u.cell? ⟨g, j, none⟩ = some (.func (.func k) #[] cs))
    (hrun : ∀ (i : Nat) k cs, fs[i]? = some (k, cs) → ∀ u, (callFunc k cs).run Try.prog u = .ok (.enter k cs) u)
    (hstep : ∀ (i : Nat) k cs, fs[i]? = some (k, cs) → ∀ u, S i u → Calls Try.prog k cs u (Step (S (i + 1)) Q))
    (hend : ∀ u, S n u → Q 0 u) (h0 : S 0 w) :
    Calls Try.prog 68 #[.slice (some ⟨g, 0, none⟩) n n] w (DoneQ Q) := by
  have HC := Lib.hid hcell
  have HS := Lib.hid hstep
  have HE := Lib.hid hend
  have HR := Lib.hid hrun
  have HN := Lib.hid hn
  have H0 := Lib.hid h0
  clear hcell hstep hrun hend hn h0
  go_enter Try.func68, Try.ntmps68
  go_wp2_with fail
  go_loopw [8] (fun v8 wr => ∃ i : Nat, i ≤ n ∧ v8 = .int .i64 i ∧ S i wr) (fun v8 _ => n - (intOf v8).toNat)
  case atStart => exact ⟨0, Nat.zero_le _, rfl, H0.out⟩
  case round =>
    obtain ⟨i, hi, rfl, hS⟩ := hrel
    by_cases hin : i < n
    · obtain ⟨k, cs, hk⟩ : ∃ k cs, fs[i]? = some (k, cs) := by
        have hl : i < fs.length := by rw [HN.out]; exact hin
        exact ⟨fs[i].1, fs[i].2, List.getElem?_eq_getElem hl⟩
      have c0 := HC.out i wr hS i k cs hk
      have ST := Lib.hid (HS.out i k cs hk wr hS)
      have hru := HR.out i k cs hk wr
      clear hS hk
      go_wp2_with ((with_reducible refine ST.out.mono ?_); rintro e w1 ⟨r, rfl, hr⟩; have HR := Lib.hid hr; clear hr)
      · go_ret
        rename_i hrn
        have hr0 : r ≠ 0 := by simpa using hrn
        exact ⟨r, rfl, HR.out.elim (fun h => absurd h.1 hr0) (fun h => h.2)⟩
      · rename_i hrn
        have hr0 : r = 0 := by simpa using hrn
        refine ⟨⟨i + 1, by omega, by simp, HR.out.elim (fun h => h.2) (fun h => absurd hr0 h.1)⟩, ?_⟩
        simp [intOf]; omega
    · obtain rfl : i = n := by omega
      have HSS := Lib.hid (HE.out _ hS)
      clear hS
      go_wp2_with fail
      go_ret
      exact ⟨0, rfl, HSS.out⟩

end Go.Proofs.Ytjihboddejaelaa
