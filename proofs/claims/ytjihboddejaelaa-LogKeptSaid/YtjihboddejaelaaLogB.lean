/-
  begin of package wal: the whole.
-/
import Derived.Test.YtjihboddejaelaaLog12
namespace Go.Proofs.Ytjihboddejaelaa
open Go.RowKit
open Go.BigFrame
open Go.Maps
set_option linter.unusedVariables false
set_option linter.unusedSimpArgs false

theorem enter_begin1 (cs : Array Value) (u : World) : (callFunc 103 cs).run Try.prog u = .ok (.enter 103 cs) u := by kernel_rfl
theorem enter_begin2 (cs : Array Value) (u : World) : (callFunc 104 cs).run Try.prog u = .ok (.enter 104 cs) u := by kernel_rfl
theorem enter_begin3 (cs : Array Value) (u : World) : (callFunc 105 cs).run Try.prog u = .ok (.enter 105 cs) u := by kernel_rfl
theorem enter_begin4 (cs : Array Value) (u : World) : (callFunc 107 cs).run Try.prog u = .ok (.enter 107 cs) u := by kernel_rfl
def beginFs (N : Nat) : List (FuncId × Array Value) := [(103, #[.pointer (some ⟨N, 0, none⟩)]), (104, #[.pointer (some ⟨N, 0, none⟩)]), (105, #[.pointer (some ⟨N, 0, none⟩)]), (107, #[.pointer (some ⟨N, 0, none⟩)])]
def beginXs (gs N g : Nat) (cs : Array Value) : List (Nat × TypeId × Array Value) :=
  [(gs, 50, ((beginFs N).map (fun x => Value.func (.func x.1) #[] x.2)).toArray), (N, 36, #[.pointer (some ⟨g, 0, none⟩)]), (g, 106, cs)]
set_option maxRecDepth 100000 in
theorem wal_beginChain (b : List (Option Nat)) (gd g p N gs : Nat) (D : Dk) (cs : Array Value) (w : World) (hgs : gs = w.heap.size) (h : DP w b gd D) (hh : Has w g 106 cs) (hg : cs[0]? = some (.pointer (some ⟨gd, 0, none⟩))) (hg5 : cs[5]? = some (.int .i64 p)) (hx : Has w N 36 #[.pointer (some ⟨g, 0, none⟩)])
    (hgb : some g ∉ b) (hNb : some N ∉ b) (hfit : Fit D 4) (hc : D.calm) (hp : p ≤ 4611686018427387904) :
    Calls Try.prog 68 #[.slice (some ⟨gs, 0, none⟩) 4 4] (w.alloc (.cells ((beginFs N).map (fun x => Value.func (.func x.1) #[] x.2)).toArray 50)).drew fun e w' => e = .returned (.int .i64 0) ∧ HeldD w b gd (beginXs gs N g cs) (beginD D p 4) w' := by
  subst hgs
  have hb := Below.drew <| (Below.refl w.heap.size w).alloc (Nat.le_refl _) (.cells ((beginFs N).map (fun x => Value.func (.func x.1) #[] x.2)).toArray 50)
  refine disk_chain (beginFs N) w.heap.size 4 w b gd (beginXs w.heap.size N g cs) (beginD D p) 50 _ rfl (by omega) (by simp [beginXs]) ⟨b, h.below hb, ?_, ?_, Turn.below _ hb⟩ ?_ ?_
  · intro x hx2
    simp only [beginXs, List.mem_cons, List.not_mem_nil, or_false] at hx2
    rcases hx2 with rfl | rfl | rfl
    · exact Has.new _ _ _
    · exact hx.alloc _
    · exact hh.alloc _
  · intro x hx2 h2
    simp only [beginXs, List.mem_cons, List.not_mem_nil, or_false] at hx2
    rcases hx2 with rfl | rfl | rfl
    · have := h.lt h2; simp only at this; omega
    · exact hNb h2
    · exact hgb h2
  · intro i k cs hi u
    have h4 : i < 4 := (List.getElem?_eq_some_iff.1 hi).1
    obtain rfl | rfl | rfl | rfl : i = 0 ∨ i = 1 ∨ i = 2 ∨ i = 3 := by omega
    · cases hi; exact enter_begin1 _ _
    · cases hi; exact enter_begin2 _ _
    · cases hi; exact enter_begin3 _ _
    · cases hi; exact enter_begin4 _ _
  · intro i k cs2 hi u b' hl hx2 ho
    have hN : Has u N 36 #[.pointer (some ⟨g, 0, none⟩)] := hx2 (N, _, _) (by simp [beginXs])
    have hG : Has u g 106 cs := hx2 (g, _, _) (by simp [beginXs])
    have f1 : Fit (D.cutD 1 0) 3 := hfit.cut _ _
    have f2 : Fit ((D.cutD 1 0).sync 1) 2 := f1.sync _
    have f3 : Fit (((D.cutD 1 0).sync 1).write 1 0 (bsOf (markL ++ slotL 1 0 p))) 1 := f2.write _ _ _
    have c1 : (D.cutD 1 0).calm := hc.cut _ _
    have c2 : ((D.cutD 1 0).sync 1).calm := c1.sync _
    have c3 : (((D.cutD 1 0).sync 1).write 1 0 (bsOf (markL ++ slotL 1 0 p))).calm := c2.write _ _ _
    have h4 : i < 4 := (List.getElem?_eq_some_iff.1 hi).1
    obtain rfl | rfl | rfl | rfl : i = 0 ∨ i = 1 ∨ i = 2 ∨ i = 3 := by omega
    · cases hi; exact wal_begin1 b' gd g D N u hl ((hG.cell 0).trans hg) hG.lt hN (hfit.less (by omega)) hc
    · cases hi; exact walD_begin2 b' gd g _ N u hl ((hG.cell 0).trans hg) hG.lt hN (f1.less (by omega)) c1
    · cases hi; exact wal_begin3 b' gd g p _ N cs u hl hG hg hg5 hN (f2.less (by omega)) c2 hp
    · cases hi; exact walD_begin4 b' gd g _ N u hl ((hG.cell 0).trans hg) hG.lt hN f3 c3

def BeginPost (w : World) (b : List (Option Nat)) (gd g : Nat) (D' : Dk) (cs : Array Value) (e : Ending) (w' : World) : Prop :=
  e = .returned (.int .i64 0) ∧ ∃ b', DP w' b' gd D' ∧ Has w' g 106 cs ∧ Turn (b ++ [some g]) (b' ++ [some g]) w w' ∧ some g ∉ b'
set_option maxRecDepth 100000 in
set_option maxHeartbeats 3200000 in
theorem wal_begin (b : List (Option Nat)) (gd g p : Nat) (D : Dk) (a1 a2 a3 a4 a6 a7 a8 : Value) (w : World) (h : DP w b gd D) (hh : Has w g 106 #[.pointer (some ⟨gd, 0, none⟩), a1, a2, a3, a4, .int .i64 p, a6, a7, a8]) (hgb : some g ∉ b) (hfit : Fit D 4) (hc : D.calm) (hp : p ≤ 4611686018427387904) :
    Calls Try.prog 64 #[.pointer (some ⟨g, 0, none⟩)] w (BeginPost w b gd g (beginD D p 4) #[.pointer (some ⟨gd, 0, none⟩), a1, a2, a3, a4, .int .i64 p, a6, .int .i64 0, .int .i64 1]) := by
  have HL := Lib.hid h
  have HH := Lib.hid hh
  have HO := Lib.hid hgb
  have HF := Lib.hid hfit
  have W1 := Lib.hid (show Has (w.alloc (.cells #[.pointer (some ⟨g, 0, none⟩)] 36)) w.heap.size 36 #[.pointer (some ⟨g, 0, none⟩)] ∧ Below w.heap.size w (w.alloc (.cells #[.pointer (some ⟨g, 0, none⟩)] 36)) from ⟨Has.new _ _ _, (Below.refl _ _).alloc (Nat.le_refl _) _⟩)
  have gz := hh.lt
  clear h hh hgb hfit
  go_enter Try.func64, Try.ntmps64
  go_upto_region 1 with fail
  generalize w.alloc (.cells #[.pointer (some ⟨g, 0, none⟩)] 36) = W at *
  have H1 := Lib.hid (HL.out.below W1.out.2)
  have H2 := Lib.hid (HH.out.belowS W1.out.2)
  have x0 := W1.out.1.cell 0
  have x7 : W.cell? ⟨g, 7, none⟩ = some a7 := H2.out.cell 7
  have x8 : W.cell? ⟨g, 8, none⟩ = some a8 := H2.out.cell 8
  have xf := H2.out.frozen
  have xz := H2.out.lt
  go_region
  all_goals
    have TS := Lib.hid (((Turn.cell g 7 (.int .i64 0) W).trans (Turn.cell g 8 (.int .i64 1) _)))
    have gb := HO.out
    have D2 := Lib.hid (H1.out.turn TS.out (fun k hk h3 => gb ((show k = g by simpa using hk) ▸ h3)))
    have G2 := Lib.hid (show Has ((W.setCell ⟨g, 7, none⟩ (.int .i64 0)).setCell ⟨g, 8, none⟩ (.int .i64 1)) g 106 #[.pointer (some ⟨gd, 0, none⟩), a1, a2, a3, a4, .int .i64 p, a6, .int .i64 0, .int .i64 1] from ((H2.out.set 7 _).set 8 _))
    have X2 := Lib.hid (W1.out.1.turn TS.out (fun h3 => Nat.ne_of_gt gz (show w.heap.size = g by simpa using h3)))
    have y0 := X2.out.cell 0
    have CH := Lib.hid (wal_beginChain b gd g p w.heap.size W.heap.size D #[.pointer (some ⟨gd, 0, none⟩), a1, a2, a3, a4, .int .i64 p, a6, .int .i64 0, .int .i64 1] ((W.setCell ⟨g, 7, none⟩ (.int .i64 0)).setCell ⟨g, 8, none⟩ (.int .i64 1)) (by simp) D2.out G2.out rfl rfl X2.out HO.out (fun h3 => by have := HL.out.lt h3; omega) HF.out hc hp)
    go_wp2_with (go_at_call 68; refine CH.out.mono ?_; rintro e w2 ⟨rfl, hH⟩; have HH2 := Lib.hid hH; clear hH)
    go_ret
    obtain ⟨b', q1, q2, q3, q4⟩ := HH2.out
    have q5 : Has w2 g 106 #[.pointer (some ⟨gd, 0, none⟩), a1, a2, a3, a4, .int .i64 p, a6, .int .i64 0, .int .i64 1] := q2 (g, _, _) (by simp [beginXs])
    have q6 : some g ∉ b' := q3 (g, 106, #[.pointer (some ⟨gd, 0, none⟩), a1, a2, a3, a4, .int .i64 p, a6, .int .i64 0, .int .i64 1]) (by simp [beginXs])
    refine ⟨rfl, b', q1, q5, ?_, q6⟩
    exact ((Turn.below _ W1.out.2).trans (TS.out.right b)).trans (q4.left [some g])

end Go.Proofs.Ytjihboddejaelaa
