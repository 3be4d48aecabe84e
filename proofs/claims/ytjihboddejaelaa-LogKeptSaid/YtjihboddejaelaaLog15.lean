/-
  Commit of package wal.
-/
import Derived.Test.YtjihboddejaelaaLogB
import Derived.Test.YtjihboddejaelaaLogR
namespace Go.Proofs.Ytjihboddejaelaa
open Go.RowKit
open Go.BigFrame
open Go.Maps
set_option linter.unusedVariables false
set_option linter.unusedSimpArgs false

set_option maxRecDepth 100000 in
set_option maxHeartbeats 800000 in
theorem wal_Commit1 (b : List (Option Nat)) (gd g m1 m2 : Nat) (R : Rw) (n : Int) (t : ByteArray) (bl bn bt : Nat) (w : World) (h : LR w b gd g m1 m2 R) (hl : Has w bl 36 #[.pointer (some ⟨g, 0, none⟩)]) (hn : Has w bn 3 #[.int .i64 n]) (ht : Has w bt 9 #[.string t]) (hfit : Fit R.D 1) (hnf : R.nf ≤ 100000) :
    Calls Try.prog 69 #[.pointer (some ⟨bl, 0, none⟩), .pointer (some ⟨bn, 0, none⟩), .pointer (some ⟨bt, 0, none⟩)] w (LinkPost w b gd g m1 m2 (R.app n t) (R.appE n t)) := by
  have TP := Lib.hid (wal_Append b gd g m1 m2 R n t w h hfit hnf)
  obtain ⟨E, hE⟩ : ∃ x, R.appE n t = x := ⟨_, rfl⟩
  rw [hE] at TP ⊢
  have x0 := hl.cell 0
  have x1 := hn.cell 0
  have x2 := ht.cell 0
  clear hE h hl hn ht hfit
  go_enter Try.func69, Try.ntmps69
  go_wp2_with (go_at_call 17; (with_reducible refine TP.out.mono ?_); rintro e w2 ⟨rfl, hd2⟩; have HD := Lib.hid hd2; clear hd2)
  go_ret
  exact ⟨rfl, HD.out⟩
set_option maxRecDepth 100000 in
set_option maxHeartbeats 1600000 in
theorem wal_Commit3 (b : List (Option Nat)) (gd g m1 m2 : Nat) (R : Rw) (p : Nat) (bl bp : Nat) (w : World) (h : LR w b gd g m1 m2 R) (hl : Has w bl 36 #[.pointer (some ⟨g, 0, none⟩)]) (hpb : Has w bp 3 #[.int .i64 p]) (hfit : Fit R.D 2) (hs : R.slot < 2) (hnum : R.number < 4) (hf : R.nf ≤ 4611686018427387904) (hp : p ≤ 4611686018427387904) :
    Calls Try.prog 71 #[.pointer (some ⟨bl, 0, none⟩), .pointer (some ⟨bp, 0, none⟩)] w (LinkPost w b gd g m1 m2 (R.tell R.nf p) (R.tellE R.nf p)) := by
  have hd := (Below.refl w.heap.size w).drew
  have TP := Lib.hid (wal_tell b gd g m1 m2 R R.nf p w.drew (h.below hd) hfit hs hnum hf hp)
  obtain ⟨E, hE⟩ : ∃ x, R.tellE R.nf p = x := ⟨_, rfl⟩
  rw [hE] at TP ⊢
  have x0 := hl.cell 0
  have x1 := hpb.cell 0
  have x2 : w.cell? ⟨g, 1, none⟩ = some (.int .i64 R.nf) := h.has.cell 1
  have gz := h.has.lt
  have HB := Lib.hid (Turn.below (b ++ lb g m1 m2) hd)
  clear hE h hl hpb hfit hd
  go_enter Try.func71, Try.ntmps71
  go_wp2_with fail
  go_region_with
    (go_at_call 72; (with_reducible refine TP.out.mono ?_); rintro e w2 ⟨rfl, hd2⟩; have HD := Lib.hid hd2; clear hd2)
  all_goals
    go_wp2_with fail
    go_ret
    obtain ⟨b', q1, q2⟩ := HD.out
    exact ⟨rfl, b', q1, HB.out.trans q2⟩
theorem app_same (R : Rw) (n : Int) (t : ByteArray) : (R.app n t).slot = R.slot ∧ (R.app n t).number = R.number ∧ (R.app n t).nf ≤ R.nf + 1 ∧ (R.app n t).np = R.np ∧ (R.app n t).kf = R.kf ∧ (R.app n t).kp = R.kp := by
  unfold Rw.app
  split
  · split
    · exact ⟨rfl, rfl, Nat.le_refl _, rfl, rfl, rfl⟩
    · exact ⟨rfl, rfl, Nat.le_succ _, rfl, rfl, rfl⟩
  · exact ⟨rfl, rfl, Nat.le_succ _, rfl, rfl, rfl⟩
theorem app_fit {R : Rw} {k : Nat} (h : Fit R.D (k + 1)) (n : Int) (t : ByteArray) : Fit (R.app n t).D k := by
  unfold Rw.app
  split
  · split
    · exact h.write _ _ _
    · exact h.write _ _ _
  · exact h.less (by omega)
theorem enter_Commit1 (cs : Array Value) (u : World) : (callFunc 69 cs).run Try.prog u = .ok (.enter 69 cs) u := by kernel_rfl
theorem enter_Commit2 (cs : Array Value) (u : World) : (callFunc 70 cs).run Try.prog u = .ok (.enter 70 cs) u := by kernel_rfl
theorem enter_Commit3 (cs : Array Value) (u : World) : (callFunc 71 cs).run Try.prog u = .ok (.enter 71 cs) u := by kernel_rfl
def commitFs (N : Nat) : List (FuncId × Array Value) := [(69, #[.pointer (some ⟨N, 0, none⟩), .pointer (some ⟨N + 1, 0, none⟩), .pointer (some ⟨N + 1 + 1, 0, none⟩)]), (70, #[.pointer (some ⟨N, 0, none⟩)]), (71, #[.pointer (some ⟨N, 0, none⟩), .pointer (some ⟨N + 1 + 1 + 1, 0, none⟩)])]
def commitXs (gs N g : Nat) (n : Int) (t : ByteArray) (p : Nat) : List (Nat × TypeId × Array Value) :=
  [(gs, 50, ((commitFs N).map (fun x => Value.func (.func x.1) #[] x.2)).toArray), (N, 36, #[.pointer (some ⟨g, 0, none⟩)]), (N + 1, 3, #[.int .i64 n]), (N + 1 + 1, 9, #[.string t]), (N + 1 + 1 + 1, 3, #[.int .i64 p])]
structure CommitBox (u : World) (N g : Nat) (n : Int) (t : ByteArray) (p : Nat) : Prop where
  l : Has u N 36 #[.pointer (some ⟨g, 0, none⟩)]
  n : Has u (N + 1) 3 #[.int .i64 n]
  t : Has u (N + 1 + 1) 9 #[.string t]
  p : Has u (N + 1 + 1 + 1) 3 #[.int .i64 p]
theorem commitBox_of {u : World} {gs N g : Nat} {n : Int} {t : ByteArray} {p : Nat} (h : Boxes u (commitXs gs N g n t p)) : CommitBox u N g n t p :=
  ⟨h (N, _, _) (by simp [commitXs]), h (N + 1, _, _) (by simp [commitXs]), h (N + 1 + 1, _, _) (by simp [commitXs]), h (N + 1 + 1 + 1, _, _) (by simp [commitXs])⟩
set_option maxRecDepth 100000 in
theorem wal_commitChain (b : List (Option Nat)) (gd g m1 m2 : Nat) (R : Rw) (n : Int) (t : ByteArray) (p gs : Nat) (w wc : World) (h : LR w b gd g m1 m2 R) (hfit : Fit R.D 4) (hs : R.slot < 2) (hnum : R.number < 4) (hnf : R.nf ≤ 100000) (hp : p ≤ 4611686018427387904)
    (hb : Below w.heap.size w wc) (hgx : Has wc gs 50 ((commitFs w.heap.size).map (fun x => Value.func (.func x.1) #[] x.2)).toArray) (hx : CommitBox wc w.heap.size g n t p) (hgs : w.heap.size ≤ gs) :
    Calls Try.prog 68 #[.slice (some ⟨gs, 0, none⟩) 3 3] wc fun e w' => e = .returned (.int .i64 (upTo (commitEs R n t p) 3).2) ∧ Held w b gd g m1 m2 (commitXs gs w.heap.size g n t p) (commitR R n t p (upTo (commitEs R n t p) 3).1) w' := by
  refine wal_chain (commitFs w.heap.size) gs 3 w b gd g m1 m2 _ (commitR R n t p) (commitEs R n t p) 50 wc rfl (by omega) (by simp [commitXs]) ⟨b, h.below hb, ?_, ?_, Turn.below _ hb⟩ ?_ ?_
  · intro x hx2
    simp only [commitXs, List.mem_cons, List.not_mem_nil, or_false] at hx2
    rcases hx2 with rfl | rfl | rfl | rfl | rfl
    · exact hgx
    · exact hx.l
    · exact hx.n
    · exact hx.t
    · exact hx.p
  · intro x hx2 h2
    have h3 := h.lt h2
    simp only [commitXs, List.mem_cons, List.not_mem_nil, or_false] at hx2
    rcases hx2 with rfl | rfl | rfl | rfl | rfl <;> simp only at h3 <;> omega
  · intro i k cs hi u
    have h4 : i < 3 := (List.getElem?_eq_some_iff.1 hi).1
    obtain rfl | rfl | rfl : i = 0 ∨ i = 1 ∨ i = 2 := by omega
    · cases hi; exact enter_Commit1 _ _
    · cases hi; exact enter_Commit2 _ _
    · cases hi; exact enter_Commit3 _ _
  · intro i k cs hi u b' hl hx2 ho hu
    have h4 : i < 3 := (List.getElem?_eq_some_iff.1 hi).1
    have hB := commitBox_of hx2
    obtain ⟨a1, a2, a3, _⟩ := app_same R n t
    have f1 : Fit (R.app n t).D 3 := app_fit hfit n t
    have f2 : Fit ((R.app n t).D.sync 1) 2 := f1.sync _
    obtain rfl | rfl | rfl : i = 0 ∨ i = 1 ∨ i = 2 := by omega
    · cases hi
      exact wal_Commit1 b' gd g m1 m2 R n t _ _ _ u hl hB.l hB.n hB.t (hfit.less (by omega)) hnf
    · cases hi
      exact (wal_Commit2 b' gd g m1 m2 (R.app n t) _ u hl hB.l (f1.less (by omega))).mono fun e w' hp => LinkPost.ofDisk (R := R.app n t) hl hp
    · cases hi
      exact wal_Commit3 b' gd g m1 m2 { R.app n t with D := (R.app n t).D.sync 1 } p _ _ u hl hB.l hB.p f2 (a1 ▸ hs) (a2 ▸ hnum) (show (R.app n t).nf ≤ _ by omega) hp

end Go.Proofs.Ytjihboddejaelaa
