/-
  leave and last of package pool.
-/
import Derived.Test.YtjihboddejaelaaPk6
import Derived.Test.YtjihboddejaelaaPk7
import Derived.RegionTactic
import Derived.BigRegion
import Derived.ChangeAlike
import Derived.Outline
import Derived.Test.YtjihboddejaelaaPk4
import Derived.Lib.Builder
import Derived.Test.YtjihboddejaelaaPk5
namespace Go.Proofs.Ytjihboddejaelaa
set_option linter.unusedVariables false
set_option linter.unusedSimpArgs false
open Go.RowKit
open Go.BigFrame
set_option linter.unusedVariables false
set_option linter.unusedSimpArgs false

section
variable {w w' : World} {e : Nat} {A A1 A2 : List Nat} {a : Nat} {F F1 F2 : List Pf} {f : Pf}
/-- the neighbours of a frame -/
theorem Ring.nbrs (h : Ring w e (A1 ++ a :: A2) (F1 ++ f :: F2)) (hl : A1.length = F1.length) :
    (∃ u v, Has w (A1.getLastD e) 138 (frC u v a)) ∧ ∃ u v, Has w (A2.headD e) 138 (frC u a v) := by
  obtain ⟨G1, G2, eq, h3, h4⟩ := seg_split h.row
  have hl2 := seg_len h3
  obtain ⟨e1, e2⟩ := List.append_inj eq (by omega)
  subst e1; subst e2
  obtain ⟨f2, r, e3, h5, h6⟩ := h4
  injection e3 with e4 e5
  subst e4; subst e5
  have hends := h.ends
  rw [getLastD_app, List.getLastD_cons, headD_app] at hends
  constructor
  · rcases snoc_of A1 with rfl | ⟨B1, z, rfl⟩
    · exact ⟨pf0, _, hends⟩
    · obtain ⟨G3, G4, eq2, h7, h8⟩ := seg_split h3
      obtain ⟨f3, r3, _, h9, _⟩ := h8
      rw [getLastD_snoc]
      exact ⟨f3, _, h9⟩
  · rcases A2 with _ | ⟨b, A2⟩
    · exact ⟨pf0, _, hends⟩
    · obtain ⟨f3, r3, _, h9, _⟩ := h6
      exact ⟨f3, _, h9⟩
theorem seg_cells {w : World} : ∀ {p : Nat} {A : List Nat} {F : List Pf} {q : Nat}, seg w p A F q → ∀ x ∈ A, ∃ t cs, Has w x t cs
  | _, [], _, _, _, _, hx => by cases hx
  | p, a :: A, _, q, h, x, hx => by
    obtain ⟨f, r, rfl, h1, h2⟩ := h
    rcases List.mem_cons.1 hx with rfl | hx
    · exact ⟨_, _, h1⟩
    · exact seg_cells h2 x hx
theorem Ring.cells (h : Ring w e A F) : ∀ x ∈ e :: A, ∃ t cs, Has w x t cs := fun x hx => by
  rcases List.mem_cons.1 hx with rfl | hx
  · exact ⟨_, _, h.ends⟩
  · exact seg_cells h.row x hx
theorem Ring.off (h : Ring w e A F) {R : Value → Option (DataW Unit × List MemPlace)} {b c : Nat} {g : Int → Option Nat} (hm : GM R w b g c) : b ∉ e :: A := fun hx => by
  obtain ⟨t, cs, hh⟩ := h.cells b hx
  exact hm.notcells hh
/-- a map turns, or a new block comes: the ring stays -/
theorem Ring.grown (h : Ring w e A F) {r : Option Nat} (hg : w.grownBy w' r) (hn : ∀ x ∈ e :: A, some x ≠ r) : Ring w' e A F := h.kept fun x hx => hg.block x (h.lt x hx) (hn x hx)
theorem Ring.below (h : Ring w e A F) (hb : Below w.heap.size w w') : Ring w' e A F := h.kept fun x hx => hb.block x (h.lt x hx)
end

theorem getLastD_mem (A : List Nat) (e : Nat) : A.getLastD e ∈ e :: A := by
  rcases snoc_of A with rfl | ⟨B, z, rfl⟩
  · exact List.mem_cons_self ..
  · rw [getLastD_snoc]; exact List.mem_cons_of_mem _ (List.mem_append_right _ (List.mem_singleton.2 rfl))
theorem headD_mem (A : List Nat) (e : Nat) : A.headD e ∈ e :: A := by
  rcases A with _ | ⟨b, A⟩
  · exact List.mem_cons_self ..
  · exact List.mem_cons_of_mem _ (List.mem_cons_self ..)
def LeavePost (w : World) (p a e h : Nat) (cs : Array Value) (A A' : List Nat) (F' : List Pf) (f : Pf) (g : Int → Option Nat) (c : Nat) (v : Value) (en : Ending) (w' : World) : Prop :=
  en = .returned v ∧ Ring w' e A' F' ∧ GM frElem w' h (fun y => if y = f.n then none else g y) (if (g f.n).isSome then c - 1 else c) ∧ Has w' p 132 cs ∧ (∃ x y, Has w' a 138 (frC f x y)) ∧ Turn (some h :: (e :: A).map some) (some h :: (e :: A).map some) w w'
theorem mem_somes {l : List Nat} {k : Nat} : some k ∈ l.map some ↔ k ∈ l := by simp
theorem set_turn (b : List (Option Nat)) (x i : Nat) (v : Value) (w : World) (hx : some x ∈ b) : Turn b b w (w.setCell ⟨x, i, none⟩ v) :=
  ⟨rfl, rfl, rfl, by simp [World.setCell], fun k _ hk => Below.heap_setCell _ _ _ _ (fun e => hk (by rw [show k = x from e]; exact hx)), fun _ h => .inl h⟩
theorem grown_turn {b : List (Option Nat)} {x : Nat} {w w' : World} (hg : w.grownBy w' (some x)) (hx : some x ∈ b) : Turn b b w w' :=
  ⟨hg.os, hg.tape, hg.output, hg.size, fun k hk hn => hg.block k hk (fun e => hn (by rw [e]; exact hx)), fun _ h => .inl h⟩

set_option maxRecDepth 100000 in
set_option maxHeartbeats 6400000 in
theorem pool_leave (p a e h : Nat) (cs : Array Value) (A1 A2 : List Nat) (F1 F2 : List Pf) (f : Pf) (g : Int → Option Nat) (c : Nat) (w : World) (hp : Has w p 132 cs) (h3 : cs[3]? = some (.map (some h)))
    (hr : Ring w e (A1 ++ a :: A2) (F1 ++ f :: F2)) (hl : A1.length = F1.length) (hm : GM frElem w h g c) (hoff : p ∉ e :: (A1 ++ a :: A2)) (hn : f.n ≤ 4294967296) :
    Calls Try.prog 95 #[.pointer (some ⟨p, 0, none⟩), .pointer (some ⟨a, 0, none⟩)] w (LeavePost w p a e h cs (A1 ++ a :: A2) (A1 ++ A2) (F1 ++ F2) f g c (.tuple #[])) := by
  have ha := hr.at hl
  obtain ⟨⟨u1, v1, hpr⟩, u2, v2, hnx⟩ := hr.nbrs hl
  have hlv := hr.leave hl
  have m1 : A1.getLastD e ∈ e :: (A1 ++ a :: A2) := by
    have := getLastD_mem A1 e
    simp only [List.mem_cons, List.mem_append] at this ⊢
    rcases this with h | h
    · exact .inl h
    · exact .inr (.inl h)
  have m2 : A2.headD e ∈ e :: (A1 ++ a :: A2) := by
    have := headD_mem A2 e
    simp only [List.mem_cons, List.mem_append] at this ⊢
    rcases this with h | h
    · exact .inl h
    · exact .inr (.inr (.inr h))
  have nd := hr.nodup
  rw [List.nodup_cons, List.nodup_append, List.nodup_cons] at nd
  obtain ⟨he, n1, n2, n3⟩ := nd
  have hea : ¬ e = a := fun x => he (x ▸ List.mem_append_right _ (List.mem_cons_self ..))
  have q1 : ¬ a = A1.getLastD e := fun x => by
    have := getLastD_mem A1 e
    rw [← x] at this
    rcases List.mem_cons.1 this with h | h
    · exact hea h.symm
    · exact n3 a h a (List.mem_cons_self ..) rfl
  have q2 : ¬ a = A2.headD e := fun x => by
    have := headD_mem A2 e
    rw [← x] at this
    rcases List.mem_cons.1 this with h | h
    · exact hea h.symm
    · exact n2.1 h
  have p1 : ¬ p = A1.getLastD e := fun x => hoff (x ▸ m1)
  have p2 : ¬ p = A2.headD e := fun x => hoff (x ▸ m2)
  have hh1 : ¬ h = A1.getLastD e := fun x => hm.notcells (x ▸ hpr)
  have hh2 : ¬ h = A2.headD e := fun x => hm.notcells (x ▸ hnx)
  have T1 := Lib.hid ((set_turn (some h :: (e :: (A1 ++ a :: A2)).map some) (A1.getLastD e) 5 (ptrB (A2.headD e)) w (List.mem_cons_of_mem _ (mem_somes.2 m1))).trans (set_turn _ (A2.headD e) 4 (ptrB (A1.getLastD e)) _ (List.mem_cons_of_mem _ (mem_somes.2 m2))))
  obtain ⟨pr, hpre⟩ : ∃ pr, A1.getLastD e = pr := ⟨_, rfl⟩
  obtain ⟨nx, hnxe⟩ : ∃ nx, A2.headD e = nx := ⟨_, rfl⟩
  rw [hpre] at ha hpr hlv q1 p1 hh1 T1
  rw [hnxe] at ha hnx hlv q2 p2 hh2 T1
  have HL := Lib.hid hlv
  have A0 := Lib.hid ((ha.far (p := ⟨pr, 5, none⟩) q1 (ptrB nx)).far (p := ⟨nx, 4, none⟩) q2 (ptrB pr))
  have P0 := Lib.hid ((hp.far (p := ⟨pr, 5, none⟩) p1 (ptrB nx)).far (p := ⟨nx, 4, none⟩) p2 (ptrB pr))
  have M0 := Lib.hid ((hm.far (p := ⟨pr, 5, none⟩) hh1 (ptrB nx)).far (p := ⟨nx, 4, none⟩) hh2 (ptrB pr))
  have x3 : w.cell? ⟨p, 3, none⟩ = some (.map (some h)) := (hp.cell 3).trans h3
  have a0 : w.cell? ⟨a, 0, none⟩ = some (.int .i64 f.n) := ha.cell 0
  have a4 : w.cell? ⟨a, 4, none⟩ = some (ptrB pr) := ha.cell 4
  have a5 : w.cell? ⟨a, 5, none⟩ = some (ptrB nx) := ha.cell 5
  have s5 : w.cell? ⟨pr, 5, none⟩ = some (ptrB a) := hpr.cell 5
  have s4 : w.cell? ⟨nx, 4, none⟩ = some (ptrB a) := hnx.cell 4
  have f5 : w.frozen? ⟨pr, 5, none⟩ = false := hpr.frozen 5
  have f4 : w.frozen? ⟨nx, 4, none⟩ = false := hnx.frozen 4
  have WN := Lib.hid (wfI (x := (f.n : Int)) (by omega) (by omega))
  clear ha hpr hnx hlv m1 m2 he n1 n2 n3 hea q1 q2 p1 p2 hh1 hh2 hpre hnxe hr hl hm hoff hp hn
  go_enter Try.func95, Try.ntmps95
  go_wp2_with fail
  go_region
  go_wp2_with fail
  generalize (w.setCell ⟨pr, 5, none⟩ (ptrB nx)).setCell ⟨nx, 4, none⟩ (ptrB pr) = W at *
  have y3 : W.cell? ⟨p, 3, none⟩ = some (.map (some h)) := (P0.out.cell 3).trans h3
  have b0 : W.cell? ⟨a, 0, none⟩ = some (.int .i64 f.n) := A0.out.cell 0
  obtain ⟨w3, hrun, hm3, hg3⟩ := (M0.out.block (w' := W.drew.drew) rfl).del Try.underlying128 (f.n : Int) WN.out 0
  have HM3 := Lib.hid hm3
  have HG3 := Lib.hid hg3
  clear hm3 hg3 x3 a0 a4 a5 s5 s4 f5 f4
  go_region
  go_end0
  have R2 : Ring W.drew.drew e (A1 ++ A2) (F1 ++ F2) := HL.out.kept fun x _ => rfl
  have nh : h ∉ e :: (A1 ++ A2) := R2.off (M0.out.block (w' := W.drew.drew) rfl)
  refine ⟨rfl, R2.grown HG3.out (fun x hx e2 => nh (Option.some.inj e2 ▸ hx)), HM3.out, ?_, ⟨pr, nx, ?_⟩, ?_⟩
  · exact (show Has W.drew.drew p _ _ from P0.out).grown HG3.out (fun e2 => M0.out.notcells (Option.some.inj e2 ▸ P0.out))
  · exact (show Has W.drew.drew a _ _ from A0.out).grown HG3.out (fun e2 => M0.out.notcells (Option.some.inj e2 ▸ A0.out))
  · exact (T1.out.trans (Turn.below _ (((Below.refl _ _).drew).drew))).trans (grown_turn HG3.out (List.mem_cons_self ..))

def RLastPost (w : World) (p a e h : Nat) (cs : Array Value) (A : List Nat) (F : List Pf) (f : Pf) (g : Int → Option Nat) (c : Nat) (en : Ending) (w' : World) : Prop :=
  en = .returned (ptrB a) ∧ Ring w' e (A ++ [a]) (F ++ [f]) ∧ GM frElem w' h (fun y => if y = f.n then some a else g y) (if (g f.n).isSome then c else c + 1) ∧ Has w' p 132 cs ∧ Turn (some a :: some h :: (e :: A).map some) (some a :: some h :: (e :: A).map some) w w'
/-- the last one of a ring -/
theorem Ring.tail {w : World} {e : Nat} {A : List Nat} {F : List Pf} (h : Ring w e A F) : ∃ u v, Has w (A.getLastD e) 138 (frC u v e) := by
  rcases snoc_of A with rfl | ⟨B, z, rfl⟩
  · exact ⟨pf0, _, h.ends⟩
  · obtain ⟨G3, G4, eq2, h7, h8⟩ := seg_split h.row
    obtain ⟨f3, r3, _, h9, _⟩ := h8
    rw [getLastD_snoc]
    exact ⟨f3, _, h9⟩
set_option maxRecDepth 100000 in
set_option maxHeartbeats 6400000 in
theorem pool_last (p a e h : Nat) (cs : Array Value) (A : List Nat) (F : List Pf) (f : Pf) (va vb : Value) (g : Int → Option Nat) (c : Nat) (w : World) (hp : Has w p 132 cs) (h2 : cs[2]? = some (ptrB e)) (h3 : cs[3]? = some (.map (some h)))
    (hr : Ring w e A F) (ha : Has w a 138 #[.int .i64 f.n, .string f.s, .int .i64 f.pins, .bool f.dirty, va, vb]) (hea : a ∉ e :: A) (hm : GM frElem w h g c) (hoff : p ∉ e :: A) (hpa : ¬ p = a) (hc : c ≤ 1000000) (hn : f.n ≤ 4294967296) :
    Calls Try.prog 88 #[.pointer (some ⟨p, 0, none⟩), .pointer (some ⟨a, 0, none⟩)] w (RLastPost w p a e h cs A F f g c) := by
  have hae : ¬ a = e := fun x => hea (x ▸ List.mem_cons_self ..)
  have hpe : ¬ p = e := fun x => hoff (x ▸ List.mem_cons_self ..)
  have m1 := getLastD_mem A e
  obtain ⟨u1, v1, hpr⟩ := hr.tail
  have hlast : Ring ((((w.setCell ⟨a, 4, none⟩ (ptrB (A.getLastD e))).setCell ⟨a, 5, none⟩ (ptrB e)).setCell ⟨A.getLastD e, 5, none⟩ (ptrB a)).setCell ⟨e, 4, none⟩ (ptrB a)) e (A ++ [a]) (F ++ [f]) := hr.lastV ha hea
  obtain ⟨pr, hpre⟩ : ∃ pr, A.getLastD e = pr := ⟨_, rfl⟩
  have hends := hr.ends
  rw [hpre] at hlast hpr m1 hends
  have hapr : ¬ a = pr := fun x => hea (x ▸ m1)
  have hppr : ¬ p = pr := fun x => hoff (x ▸ m1)
  have hha : ¬ h = a := fun x => hm.notcells (x ▸ ha)
  have hhe : ¬ h = e := fun x => hm.notcells (x ▸ hends)
  have hhp : ¬ h = pr := fun x => hm.notcells (x ▸ hpr)
  have a1 := (ha.set 4 (ptrB pr)).set 5 (ptrB e)
  have P1 := Lib.hid ((hp.far (p := ⟨a, 4, none⟩) hpa (ptrB pr)).far (p := ⟨a, 5, none⟩) hpa (ptrB e))
  have M1 := Lib.hid ((hm.far (p := ⟨a, 4, none⟩) hha (ptrB pr)).far (p := ⟨a, 5, none⟩) hha (ptrB e))
  have r1 := (hpr.far (p := ⟨a, 4, none⟩) (Ne.symm hapr) (ptrB pr)).far (p := ⟨a, 5, none⟩) (Ne.symm hapr) (ptrB e)
  have e1 := (hends.far (p := ⟨a, 4, none⟩) (Ne.symm hae) (ptrB pr)).far (p := ⟨a, 5, none⟩) (Ne.symm hae) (ptrB e)
  have T1 := Lib.hid ((set_turn (some a :: some h :: (e :: A).map some) a 4 (ptrB pr) w (List.mem_cons_self ..)).trans (set_turn _ a 5 (ptrB e) _ (List.mem_cons_self ..)))
  have x2 : w.cell? ⟨p, 2, none⟩ = some (ptrB e) := (hp.cell 2).trans h2
  have e4 : w.cell? ⟨e, 4, none⟩ = some (ptrB pr) := hends.cell 4
  have a4 : w.cell? ⟨a, 4, none⟩ = some va := ha.cell 4
  have a5 : w.cell? ⟨a, 5, none⟩ = some vb := ha.cell 5
  have af := ha.frozen
  have HL := Lib.hid hlast
  have WN := Lib.hid (wfI (x := (f.n : Int)) (by omega) (by omega))
  have NE := Lib.hid (And.intro hapr (And.intro hae (And.intro hppr (And.intro hpe (And.intro hha (And.intro hhe hhp))))))
  have MP := Lib.hid m1
  have A1 := Lib.hid a1; have R1 := Lib.hid r1; have E1 := Lib.hid e1
  clear ha hpr hlast hends hr hea hm hoff hp hpa hapr hppr hha hhe hhp hae hpe m1 hpre hn a1 r1 e1
  go_enter Try.func88, Try.ntmps88
  go_wp2_with fail
  go_region
  go_wp2_with fail
  clear x2 e4 a4 a5 af
  generalize (w.setCell ⟨a, 4, none⟩ (ptrB pr)).setCell ⟨a, 5, none⟩ (ptrB e) = W1 at *
  have b4 : W1.cell? ⟨a, 4, none⟩ = some (ptrB pr) := A1.out.cell 4
  have b5 : W1.cell? ⟨a, 5, none⟩ = some (ptrB e) := A1.out.cell 5
  have c5 : W1.cell? ⟨pr, 5, none⟩ = some (ptrB e) := R1.out.cell 5
  have c4 : W1.cell? ⟨e, 4, none⟩ = some (ptrB pr) := E1.out.cell 4
  have cf := R1.out.frozen
  have df := E1.out.frozen
  go_region
  go_wp2_with fail
  obtain ⟨hapr, hae, hppr, hpe, hha, hhe, hhp⟩ := NE.out
  have A2 := Lib.hid ((A1.out.far (p := ⟨pr, 5, none⟩) hapr (ptrB a)).far (p := ⟨e, 4, none⟩) hae (ptrB a))
  have P2 := Lib.hid ((P1.out.far (p := ⟨pr, 5, none⟩) hppr (ptrB a)).far (p := ⟨e, 4, none⟩) hpe (ptrB a))
  have M2 := Lib.hid ((M1.out.far (p := ⟨pr, 5, none⟩) hhp (ptrB a)).far (p := ⟨e, 4, none⟩) hhe (ptrB a))
  have T2 := Lib.hid ((T1.out.trans (set_turn _ pr 5 (ptrB a) _ (List.mem_cons_of_mem _ (List.mem_cons_of_mem _ (mem_somes.2 MP.out))))).trans (set_turn _ e 4 (ptrB a) _ (List.mem_cons_of_mem _ (List.mem_cons_of_mem _ (mem_somes.2 (List.mem_cons_self ..))))))
  clear b4 b5 c5 c4 cf df hapr hae hppr hpe hha hhe hhp
  generalize (W1.setCell ⟨pr, 5, none⟩ (ptrB a)).setCell ⟨e, 4, none⟩ (ptrB a) = W2 at *
  have y3 : W2.cell? ⟨p, 3, none⟩ = some (.map (some h)) := (P2.out.cell 3).trans h3
  have b0 : W2.cell? ⟨a, 0, none⟩ = some (.int .i64 f.n) := A2.out.cell 0
  obtain ⟨w3, hrun, hm3, hg3⟩ := (M2.out.block (w' := W2.drew.drew.drew) rfl).put Try.underlying128 (Nat.le_trans hc (by decide)) (f.n : Int) WN.out (val := ptrB a) (v := a) (ps := []) rfl
  have HM3 := Lib.hid hm3
  have HG3 := Lib.hid hg3
  clear hm3 hg3
  go_region
  go_wp2_with fail
  go_ret
  have R2 : Ring W2.drew.drew.drew e (A ++ [a]) (F ++ [f]) := HL.out.kept fun x _ => rfl
  have nh : h ∉ e :: (A ++ [a]) := R2.off (M2.out.block (w' := W2.drew.drew.drew) rfl)
  refine ⟨rfl, R2.grown HG3.out (fun x hx e2 => nh (Option.some.inj e2 ▸ hx)), HM3.out, ?_, ?_⟩
  · exact (show Has W2.drew.drew.drew p _ _ from P2.out).grown HG3.out (fun e2 => M2.out.notcells (Option.some.inj e2 ▸ P2.out))
  · exact (T2.out.trans (Turn.below _ ((((Below.refl _ _).drew).drew).drew))).trans (grown_turn HG3.out (List.mem_cons_of_mem _ (List.mem_cons_self ..)))

end Go.Proofs.Ytjihboddejaelaa

/-
  A pool in memory; what its parts keep.
-/
namespace Go.Proofs.Ytjihboddejaelaa
set_option linter.unusedVariables false
set_option linter.unusedSimpArgs false
open Go.RowKit
open Go.BigFrame
set_option linter.unusedVariables false
set_option linter.unusedSimpArgs false

def plCells (g e h t : Nat) (P : Pl) : Array Value := #[ptrB g, .int .i64 P.most, ptrB e, .map (some h), .int .i64 P.pages, .int .i64 P.free, .map (some t), .int .i64 P.hits, .int .i64 P.misses, .int .i64 P.spills]
/-- where the frames of pages lie -/
def heldOf : List Nat → List Pf → Int → Option Nat
  | a :: A, f :: F, x => if (f.n : Int) = x then some a else heldOf A F x
  | _, _, _ => none
def turnOf (T : List Nat) (x : Int) : Option Nat := if ∃ n ∈ T, (n : Int) = x then some 1 else none
def pb (p e h t : Nat) (A : List Nat) : List (Option Nat) := (p :: e :: h :: t :: A).map some
def allB (b : List (Option Nat)) (g m1 m2 p e h t : Nat) (A : List Nat) : List (Option Nat) := (b ++ lb g m1 m2) ++ pb p e h t A
theorem mem_pb {p e h t k : Nat} {A : List Nat} : some k ∈ pb p e h t A ↔ k = p ∨ k = h ∨ k = t ∨ k ∈ e :: A := by
  unfold pb; simp only [List.mem_map, List.mem_cons, Option.some.injEq, exists_eq_right]
  constructor
  · rintro (h | h | h | h | h) <;> simp [h]
  · rintro (h | h | h | h | h) <;> simp [h]
structure PM (w : World) (b : List (Option Nat)) (gd g m1 m2 p e h t : Nat) (A : List Nat) (P : Pl) : Prop where
  log : LR w b gd g m1 m2 P.L.rw
  has : Has w p 132 (plCells g e h t P)
  ring : Ring w e A P.ring
  held : GM frElem w h (heldOf A P.ring) P.ring.length
  turned : GM (plainElem Try.prog 3) w t (turnOf P.turned) P.turned.length
  hp : p ∉ e :: A
  ht : h ≠ t
  off : Disj (b ++ lb g m1 m2) (pb p e h t A)
/-- what a pool's numbers are good for -/
structure Pl.ok (P : Pl) : Prop where
  log : P.L.ok
  names : (P.ring.map (·.n)).Nodup
  pages : ∀ f ∈ P.ring, f.n < P.pages
  size : ∀ f ∈ P.ring, f.s.size = 1024
  most : P.most ≤ 64
  full : P.ring.length ≤ P.most
  few : P.pages ≤ 65536
  link : P.free ≤ 2147483647
  turnd : P.turned.Nodup
  turns : ∀ x ∈ P.turned, x < P.pages

theorem heldOf_none : ∀ {A : List Nat} {F : List Pf} {x : Int}, (∀ f ∈ F, (f.n : Int) ≠ x) → heldOf A F x = none
  | [], _, _, _ => by cases ‹List Pf› <;> rfl
  | _ :: _, [], _, _ => rfl
  | a :: A, f :: F, x, h => by
    rw [heldOf, if_neg (h f (List.mem_cons_self ..))]
    exact heldOf_none fun g hg => h g (List.mem_cons_of_mem _ hg)
theorem heldOf_app : ∀ {A1 A2 : List Nat} {F1 F2 : List Pf} {x : Int}, A1.length = F1.length → heldOf (A1 ++ A2) (F1 ++ F2) x = (heldOf A1 F1 x).or (heldOf A2 F2 x)
  | [], A2, [], F2, x, _ => by simp [heldOf]
  | a :: A1, A2, f :: F1, F2, x, h => by
    rw [List.cons_append, List.cons_append, heldOf, heldOf]
    by_cases hx : (f.n : Int) = x
    · rw [if_pos hx, if_pos hx]; rfl
    · rw [if_neg hx, if_neg hx]; exact heldOf_app (by simpa using h)
  | [], _, _ :: _, _, _, h => by simp at h
  | _ :: _, _, [], _, _, h => by simp at h
theorem names_split {F1 F2 : List Pf} {f : Pf} (h : ((F1 ++ f :: F2).map (·.n)).Nodup) : (∀ g ∈ F1, (g.n : Int) ≠ (f.n : Int)) ∧ (∀ g ∈ F2, (g.n : Int) ≠ (f.n : Int)) ∧ ((F1 ++ F2).map (·.n)).Nodup := by
  rw [List.map_append, List.map_cons, List.nodup_append, List.nodup_cons] at h
  obtain ⟨h1, ⟨h2, h3⟩, h4⟩ := h
  refine ⟨fun g hg e => ?_, fun g hg e => ?_, ?_⟩
  · exact h4 g.n (List.mem_map.2 ⟨g, hg, rfl⟩) f.n (List.mem_cons_self ..) (by omega)
  · exact h2 (List.mem_map.2 ⟨g, hg, by omega⟩)
  · rw [List.map_append, List.nodup_append]
    exact ⟨h1, h3, fun x hx y hy => h4 x hx y (List.mem_cons_of_mem _ hy)⟩
theorem heldOf_at {A1 A2 : List Nat} {a : Nat} {F1 F2 : List Pf} {f : Pf} (h : ((F1 ++ f :: F2).map (·.n)).Nodup) (hl : A1.length = F1.length) : heldOf (A1 ++ a :: A2) (F1 ++ f :: F2) f.n = some a := by
  rw [heldOf_app hl, heldOf_none (names_split h).1, heldOf, if_pos rfl]; rfl
theorem heldOf_del {A1 A2 : List Nat} {a : Nat} {F1 F2 : List Pf} {f : Pf} (h : ((F1 ++ f :: F2).map (·.n)).Nodup) (hl : A1.length = F1.length) (x : Int) :
    heldOf (A1 ++ A2) (F1 ++ F2) x = if x = f.n then none else heldOf (A1 ++ a :: A2) (F1 ++ f :: F2) x := by
  obtain ⟨h1, h2, _⟩ := names_split h
  by_cases hx : x = f.n
  · subst hx
    rw [if_pos rfl, heldOf_app hl, heldOf_none h1, heldOf_none h2]; rfl
  · rw [if_neg hx, heldOf_app hl, heldOf_app hl]
    congr 1
    rw [heldOf, if_neg (fun e => hx e.symm)]
theorem heldOf_snoc {A : List Nat} {a : Nat} {F : List Pf} {f : Pf} (hl : A.length = F.length) (h : ∀ g ∈ F, (g.n : Int) ≠ (f.n : Int)) (x : Int) :
    heldOf (A ++ [a]) (F ++ [f]) x = if x = f.n then some a else heldOf A F x := by
  rw [heldOf_app hl]
  by_cases hx : x = f.n
  · subst hx
    rw [if_pos rfl, heldOf_none h]
    simp [heldOf]
  · rw [if_neg hx]
    have : heldOf [a] [f] x = none := by rw [heldOf, if_neg (fun e => hx e.symm)]; rfl
    rw [this]
    cases heldOf A F x <;> rfl
theorem dropN_mid {F1 F2 : List Pf} {f : Pf} (h : ((F1 ++ f :: F2).map (·.n)).Nodup) : dropN f.n (F1 ++ f :: F2) = F1 ++ F2 := by
  obtain ⟨h1, h2, _⟩ := names_split h
  unfold dropN
  rw [List.filter_append, List.filter_cons, if_neg (by simp)]
  congr 1
  · exact List.filter_eq_self.2 fun g hg => by have := h1 g hg; simp; omega
  · exact List.filter_eq_self.2 fun g hg => by have := h2 g hg; simp; omega
theorem idle_none {F : List Pf} (h : ∀ f ∈ F, f.pins ≠ 0) : idle F = none := List.find?_eq_none.2 fun f hf => by simpa using h f hf
theorem idle_at {F1 F2 : List Pf} {f : Pf} (h : ∀ g ∈ F1, g.pins ≠ 0) (hf : f.pins = 0) : idle (F1 ++ f :: F2) = some f := by
  unfold idle
  rw [List.find?_append, List.find?_eq_none.2 (fun g hg => by simpa using h g hg), List.find?_cons]
  simp [hf]
theorem find_at {F1 F2 : List Pf} {f : Pf} {x : Int} (h : ∀ g ∈ F1, (g.n : Int) ≠ x) (hf : (f.n : Int) = x) : findN x (F1 ++ f :: F2) = some f := by
  unfold findN
  rw [List.find?_append, List.find?_eq_none.2 (fun g hg => by simpa using h g hg), List.find?_cons]
  simp [hf]
theorem find_split {F : List Pf} {x : Int} {f : Pf} (h : findN x F = some f) : ∃ F1 F2, F = F1 ++ f :: F2 ∧ (f.n : Int) = x ∧ ∀ g ∈ F1, (g.n : Int) ≠ x := by
  unfold findN at h
  obtain ⟨h1, F1, F2, h2, h3⟩ := List.find?_eq_some_iff_append.1 h
  exact ⟨F1, F2, h2, by simpa using h1, fun g hg => by simpa using h3 g hg⟩
theorem find_none {F : List Pf} {x : Int} (h : findN x F = none) : ∀ f ∈ F, (f.n : Int) ≠ x := fun f hf => by
  have := List.find?_eq_none.1 h f hf
  simpa using this

section
variable {w w' : World} {b b' : List (Option Nat)} {gd g m1 m2 m1' m2' p e h t : Nat} {A A1 A2 : List Nat} {a : Nat} {P : Pl}
theorem PM.ltp (H : PM w b gd g m1 m2 p e h t A P) : ∀ k, some k ∈ pb p e h t A → k < w.heap.size := fun k hk => by
  rcases mem_pb.1 hk with rfl | rfl | rfl | hk
  · exact H.has.lt
  · exact H.held.lt
  · exact H.turned.lt
  · exact H.ring.lt k hk
theorem PM.lt (H : PM w b gd g m1 m2 p e h t A P) : ∀ k, some k ∈ allB b g m1 m2 p e h t A → k < w.heap.size := fun k hk => by
  rcases List.mem_append.1 hk with hk | hk
  · exact H.log.lt hk
  · exact H.ltp k hk
theorem PM.below (H : PM w b gd g m1 m2 p e h t A P) (hb : Below w.heap.size w w') : PM w' b gd g m1 m2 p e h t A P :=
  ⟨H.log.below hb, H.has.belowS hb, H.ring.below hb, H.held.below hb, H.turned.below hb, H.hp, H.ht, H.off⟩
/-- another thing turns -/
theorem PM.far {x x' : List (Option Nat)} (H : PM w b gd g m1 m2 p e h t A P) (ht : Turn x x' w w') (hd : ∀ k, some k ∈ x → some k ∉ allB b g m1 m2 p e h t A) : PM w' b gd g m1 m2 p e h t A P := by
  have hk : ∀ k, some k ∈ allB b g m1 m2 p e h t A → w'.heap[k]? = w.heap[k]? := fun k hk => ht.block k (H.lt k hk) (fun h2 => hd k h2 hk)
  have hq : ∀ k, k = p ∨ k = h ∨ k = t ∨ k ∈ e :: A → w'.heap[k]? = w.heap[k]? := fun k hk2 => hk k (List.mem_append_right _ (mem_pb.2 hk2))
  exact ⟨H.log.far ht (fun k h1 h2 => hd k h1 (List.mem_append_left _ h2)), (hq p (.inl rfl)).trans H.has, H.ring.kept (fun k hk2 => hq k (.inr (.inr (.inr hk2)))), H.held.block (hq h (.inr (.inl rfl))), H.turned.block (hq t (.inr (.inr (.inl rfl)))), H.hp, H.ht, H.off⟩
/-- the log turns -/
theorem PM.onLog {L' : Lg} (H : PM w b gd g m1 m2 p e h t A P) (hl : LR w' b' gd g m1' m2' L'.rw) (ht : Turn (b ++ lb g m1 m2) (b' ++ lb g m1' m2') w w') :
    PM w' b' gd g m1' m2' p e h t A { P with L := L' } ∧ Turn (allB b g m1 m2 p e h t A) (allB b' g m1' m2' p e h t A) w w' := by
  have hq : ∀ k, k = p ∨ k = h ∨ k = t ∨ k ∈ e :: A → w'.heap[k]? = w.heap[k]? := fun k hk2 => ht.block k (H.ltp k (mem_pb.2 hk2)) (fun h2 => H.off k h2 (mem_pb.2 hk2))
  exact ⟨⟨hl, (hq p (.inl rfl)).trans H.has, H.ring.kept (fun k hk2 => hq k (.inr (.inr (.inr hk2)))), H.held.block (hq h (.inr (.inl rfl))), H.turned.block (hq t (.inr (.inr (.inl rfl)))), H.hp, H.ht, disj_turn H.off ht H.ltp⟩, ht.left _⟩
/-- a number of the pool is stored -/
theorem PM.set {P' : Pl} (H : PM w b gd g m1 m2 p e h t A P) (i : Nat) (v : Value) (hc : (plCells g e h t P).setIfInBounds i v = plCells g e h t P') (h1 : P'.L = P.L) (h2 : P'.ring = P.ring) (h3 : P'.turned = P.turned) :
    PM (w.setCell ⟨p, i, none⟩ v) b gd g m1 m2 p e h t A P' ∧ Turn (allB b g m1 m2 p e h t A) (allB b g m1 m2 p e h t A) w (w.setCell ⟨p, i, none⟩ v) := by
  have hm : some p ∈ pb p e h t A := mem_pb.2 (.inl rfl)
  have ht := set_turn [some p] p i v w (List.mem_singleton.2 rfl)
  have hph : ¬ h = p := fun x => by subst x; exact H.held.notcells H.has
  have hpt : ¬ t = p := fun x => by subst x; exact H.turned.notcells H.has
  refine ⟨⟨?_, hc ▸ H.has.set i v, ?_, ?_, ?_, H.hp, H.ht, H.off⟩, set_turn _ p i v w (List.mem_append_right _ hm)⟩
  · rw [h1]; exact H.log.far ht (fun k h5 h6 => by cases List.mem_singleton.1 h5; exact H.off p h6 hm)
  · rw [h2]; exact H.ring.kept fun x hx => Below.heap_setCell _ _ _ _ (fun y => H.hp (by rw [show p = x from y.symm]; exact hx))
  · rw [h2]; exact H.held.far hph v
  · rw [h3]; exact H.turned.far hpt v
end

end Go.Proofs.Ytjihboddejaelaa

/-
  What a pool's numbers are good for is kept by its operations. No program in sight.
-/
namespace Go.Proofs.Ytjihboddejaelaa
set_option linter.unusedVariables false
set_option linter.unusedSimpArgs false
open Go.RowKit
set_option linter.unusedVariables false
set_option linter.unusedSimpArgs false

theorem rw_down {L : Lg} {x : Int} (h : L.rw.readE x = 0) : L.D.down = false := by
  cases hd : L.D.down
  · rfl
  · exfalso
    have h1 : ∀ f a n, L.rw.D.readE f a n = 0 → False := fun f a n h => by
      unfold Dk.readE at h
      simp [Lg.rw, hd] at h
      first | (split at h <;> simp_all) | simp_all
    have h2 : L.rw.D.sizeE 0 ≠ 0 := by
      unfold Dk.sizeE
      simp [Lg.rw, hd]
    unfold Rw.readE at h
    by_cases h3 : 0 ≤ x ∧ x ≤ 2147483647
    · rw [if_pos h3] at h
      by_cases h4 : L.rw.f1 x ≠ 0
      · rw [if_pos h4] at h; exact h1 _ _ _ h
      · rw [if_neg h4, if_pos h2] at h; exact h2 h
    · rw [if_neg h3] at h; cases h
theorem read_size {L : Lg} (ok : L.ok) {x : Int} (h : L.rw.readE x = 0) : (L.rw.readS x).size = 1024 := by
  have hd := rw_down h
  obtain ⟨e1, e2⟩ := rw_read ok hd x
  rw [← e1]
  rw [← e2] at h
  unfold Lg.readE at h
  unfold Lg.readS
  split at h
  · rename_i hx
    rw [if_pos ⟨hx.1, hx.2, hd⟩]
    rw [if_neg (by rw [hd]; simp)] at h
    split at h
    · rename_i hl
      rw [if_pos hl]
      have hlt : lastAt L.fs x - 1 < L.fs.length := by have := lastAt_le L.fs x; omega
      rw [List.getElem?_eq_getElem hlt]
      exact (ok.frames _ (List.getElem_mem hlt)).2
    · rename_i hl
      rw [if_neg hl]
      split at h
      · rename_i hs
        rw [if_pos hs, bsOf_size, partL]
        simp only [List.length_take, List.length_drop]
        have : (x.toNat : Int) = x := Int.toNat_of_nonneg hx.1
        omega
      · cases h
  · cases h
theorem seal_size {K L : Nat} (h1 : 1 ≤ K) (h2 : K ≤ 5) (h3 : L ≤ 2147483647) {cs : List ByteArray} (h4 : usedN cs ≤ 1012) : (sealS K L cs).size = 1024 := by
  unfold sealS
  rw [if_neg (by omega), bsOf_size]
  exact sealL_len h4
section
variable {P : Pl}
theorem Pl.ok.sub (ok : P.ok) {F : List Pf} (h : F.Sublist P.ring) {L' : Lg} (hl : L'.ok) (s : Int) : ({ P with ring := F, L := L', spills := s } : Pl).ok :=
  ⟨hl, (h.map _).nodup ok.names, fun f hf => ok.pages f (h.subset hf), fun f hf => ok.size f (h.subset hf), ok.most, Nat.le_trans h.length_le ok.full, ok.few, ok.link, ok.turnd, ok.turns⟩
theorem dropN_sub (x : Nat) (F : List Pf) : (dropN x F).Sublist F := List.filter_sublist
theorem spill_ok (ok : P.ok) (f : Pf) : (P.spill f).1.ok := by
  unfold Pl.spill
  split
  · split
    · exact ok.sub (dropN_sub _ _) (append_ok ok.log _ _) _
    · exact ok.sub (List.Sublist.refl _) (append_ok ok.log _ _) _
  · exact ok.sub (dropN_sub _ _) ok.log _
theorem spill_len (ok : P.ok) {f : Pf} (hf : f ∈ P.ring) (h : (P.spill f).2 = 0) : (P.spill f).1.ring.length + 1 = P.ring.length := by
  have hd : (dropN f.n P.ring).length + 1 = P.ring.length := by
    obtain ⟨F1, F2, e⟩ := List.append_of_mem hf
    have nm := ok.names
    rw [e] at nm ⊢
    rw [dropN_mid nm]
    simp; omega
  unfold Pl.spill at h ⊢
  split
  · rename_i h1
    rw [if_pos h1] at h
    split
    · exact hd
    · rename_i h2
      rw [if_neg h2] at h; exact absurd h h2
  · exact hd
theorem room_ok (ok : P.ok) : P.room.1.ok ∧ (P.room.2 = 0 → P.room.1.ring.length < P.most) := by
  unfold Pl.room
  split
  · rename_i h; exact ⟨ok, fun _ => h⟩
  · rename_i h
    split
    · exact ⟨ok, fun h => by cases h⟩
    · rename_i f hf
      refine ⟨spill_ok ok f, fun h2 => ?_⟩
      have hm : f ∈ P.ring := List.mem_of_find?_eq_some hf
      have := spill_len ok hm h2
      have := ok.full
      omega
theorem spill_same (f : Pf) : (P.spill f).1.most = P.most ∧ (P.spill f).1.pages = P.pages ∧ (P.spill f).1.free = P.free ∧ (P.spill f).1.turned = P.turned ∧ ∀ x ∈ (P.spill f).1.ring, x ∈ P.ring := by
  unfold Pl.spill
  split
  · split <;> exact ⟨rfl, rfl, rfl, rfl, fun x hx => by first | exact (dropN_sub _ _).subset hx | exact hx⟩
  · exact ⟨rfl, rfl, rfl, rfl, fun x hx => (dropN_sub _ _).subset hx⟩
theorem room_same : P.room.1.most = P.most ∧ P.room.1.pages = P.pages ∧ P.room.1.free = P.free ∧ P.room.1.turned = P.turned ∧ ∀ x ∈ P.room.1.ring, x ∈ P.ring := by
  unfold Pl.room
  split
  · exact ⟨rfl, rfl, rfl, rfl, fun x hx => hx⟩
  · split
    · exact ⟨rfl, rfl, rfl, rfl, fun x hx => hx⟩
    · exact spill_same _
theorem snoc_ok (ok : P.ok) {f : Pf} (hn : ∀ g ∈ P.ring, (g.n : Int) ≠ (f.n : Int)) (hp : f.n < P.pages) (hs : f.s.size = 1024) (hl : P.ring.length < P.most) (h m : Int) : ({ P with ring := P.ring ++ [f], hits := h, misses := m } : Pl).ok := by
  refine ⟨ok.log, ?_, fun g hg => ?_, fun g hg => ?_, ok.most, ?_, ok.few, ok.link, ok.turnd, ok.turns⟩
  · show ((P.ring ++ [f]).map _).Nodup
    rw [List.map_append, List.nodup_append]
    refine ⟨ok.names, by simp, fun x hx y hy e => ?_⟩
    obtain ⟨g, hg, rfl⟩ := List.mem_map.1 hx
    have : y = f.n := by simpa using hy
    exact hn g hg (by omega)
  · rcases List.mem_append.1 hg with hg | hg
    · exact ok.pages g hg
    · rw [List.mem_singleton.1 hg]; exact hp
  · rcases List.mem_append.1 hg with hg | hg
    · exact ok.size g hg
    · rw [List.mem_singleton.1 hg]; exact hs
  · show (P.ring ++ [f]).length ≤ _
    rw [List.length_append, List.length_singleton]; exact hl
theorem get_ok (ok : P.ok) (x : Int) : (P.get x).1.ok := by
  unfold Pl.get
  split
  · rename_i hx
    split
    · rename_i f hf
      obtain ⟨F1, F2, e, h1, h2⟩ := find_split hf
      have nm := ok.names
      rw [e] at nm
      have hd : dropN f.n P.ring = F1 ++ F2 := by rw [e]; exact dropN_mid nm
      obtain ⟨n1, n2, _⟩ := names_split nm
      have hm : f ∈ P.ring := by rw [e]; exact List.mem_append_right _ (List.mem_cons_self ..)
      have ok2 : ({ P with ring := dropN f.n P.ring } : Pl).ok := ok.sub (dropN_sub _ _) ok.log _
      refine snoc_ok ok2 (fun g hg => ?_) (ok.pages f hm) (ok.size f hm) ?_ _ _
      · rw [show ({ P with ring := dropN f.n P.ring } : Pl).ring = F1 ++ F2 from hd] at hg
        rcases List.mem_append.1 hg with hg | hg
        · exact n1 g hg
        · exact n2 g hg
      · show (dropN f.n P.ring).length < P.most
        have := ok.full
        rw [hd]
        rw [e] at this
        simp at this ⊢; omega
    · rename_i hf
      split
      · rename_i hr
        obtain ⟨r1, r2⟩ := room_ok ok
        have r3 := r2 hr
        unfold Pl.fetch
        split
        · rename_i hE
          obtain ⟨s1, s2, s3, s4, s5⟩ := room_same (P := P)
          refine snoc_ok r1 (fun g hg => ?_) ?_ (read_size r1.log hE) (by rw [s1]; exact r3) _ _
          · have := find_none hf g (s5 g hg)
            show (g.n : Int) ≠ (x.toNat : Int)
            omega
          · show x.toNat < P.room.1.pages
            rw [s2]; omega
        · exact r1
      · exact (room_ok ok).1
  · exact ok
end

end Go.Proofs.Ytjihboddejaelaa

/-
  What a crash leaves of a pool's log, in plain Lean: how many pages there are, and each of them, out of frames alone. No program in sight.
-/
namespace Go.Proofs.Ytjihboddejaelaa
set_option linter.unusedVariables false
set_option linter.unusedSimpArgs false
open Go.RowKit
set_option linter.unusedVariables false
set_option linter.unusedSimpArgs false

/-- what the log's file tells: T of its frames and of the number of pages -/
def TellsT (l1 : List UInt8) (T : List Fr → Nat → Prop) : Prop := slotIx l1 ≠ 2 ∧ T (framesOf l1 (slotOf l1 (slotIx l1)).2.1) (slotOf l1 (slotIx l1)).2.2
theorem TellsT.of {l1 : List UInt8} {T : List Fr → Nat → Prop} {sl N f p : Nat} {fs : List Fr} (h : slotIx l1 = sl ∧ slotOf l1 sl = (N, f, p) ∧ framesOf l1 f = fs) (hs : sl < 2) (hk : T fs p) : TellsT l1 T := by
  obtain ⟨h1, h2, h3⟩ := h
  unfold TellsT
  rw [h1, h2]
  dsimp only
  rw [h3]
  exact ⟨by omega, hk⟩
theorem safe_tellsT {L : Lg} (h : Safe L) {T : List Fr → Nat → Prop} (hk : T (L.fs.take L.kept) L.pages) (keep : List Int) : TellsT (L.D.crash keep).l1 T := .of (after_crash h keep).2 h.ok.slot hk
theorem tell_outT {L : Lg} (h : Safe L) (S : ∀ keep, Synced (L.settle (L.D.crash keep).l1)) (h64 : ∀ keep, 64 ≤ (L.D.crash keep).l1.length) {f p : Nat} (hf : f ≤ L.fs.length) (hp : p < 4294967296) {T U : List Fr → Nat → Prop} (hK : T (L.fs.take L.kept) L.pages) (hM : U (L.fs.take f) p) :
    (L.tellE f p = 0 → Synced (L.tell f p) ∧ (L.tell f p).fs = L.fs ∧ (L.tell f p).kept = f ∧ (L.tell f p).pages = p) ∧
    (L.tellE f p ≠ 0 → (L.tell f p).D.down = true ∧ ∀ keep, TellsT ((L.tell f p).D.crash keep).l1 T ∨ TellsT ((L.tell f p).D.crash keep).l1 U) := by
  have hs := h.ok.slot
  have eD := tellD_eq hs f p
  have e1c : (L.D.crash [1]).l1 = L.D.seen 1 := seen_crash _ _ _ _
  by_cases h1 : L.D.stops
  · have eE : L.tellE f p = 2 := if_pos h1
    have eT : L.tell f p = { L with D := L.tellD f p } := if_pos h1
    have eC : L.tellD f p = L.D.turn := by rw [eD]; exact if_pos h1
    have hdn : L.D.turn.down = true := by unfold Dk.turn; rw [if_pos h1]
    refine ⟨fun h2 => (by rw [eE] at h2; cases h2), fun _ => ?_⟩
    rw [eT, eC]
    refine ⟨hdn, fun keep => .inl ?_⟩
    show TellsT (L.D.turn.crash keep).l1 T
    rw [(crash_turn L.D keep).2]
    exact safe_tellsT h hK keep
  · have eE : L.tellE f p = (L.tellD f p).turnE := if_neg h1
    by_cases h2 : (L.tellD f p).stops
    · have eE2 : L.tellE f p = 2 := eE.trans (if_pos h2)
      have eT : L.tell f p = { L with D := (L.tellD f p).sync 1 } := (if_neg h1).trans (if_pos h2)
      have eY : (L.tellD f p).sync 1 = (L.tellD f p).turn := by
        unfold Dk.sync
        rw [if_pos (by decide), if_pos h2]
      have hdn : (L.tellD f p).turn.down = true := by unfold Dk.turn; rw [if_pos h2]
      refine ⟨fun h3 => (by rw [eE2] at h3; cases h3), fun _ => ?_⟩
      rw [eT, eY]
      refine ⟨hdn, fun keep => ?_⟩
      show TellsT ((L.tellD f p).turn.crash keep).l1 T ∨ TellsT ((L.tellD f p).turn.crash keep).l1 U
      rw [(crash_turn (L.tellD f p) keep).2]
      have w1 : (L.tellD f p).l1 = L.D.l1 := by rw [eD]; exact (change_lasts _ _).2.1
      have w2 : (L.tellD f p).waits = L.D.waits ++ [tellCh L f p] := by
        rw [eD]; unfold Dk.change; rw [if_neg h1]
      have z1 : ((L.tellD f p).crash keep).l1 = crash1 (tellCh L f p) (howL keep (0 + L.D.waits.length)) (L.D.crash keep).l1 1 := by
        show crashL keep (L.tellD f p).waits 0 1 (L.tellD f p).l1 = _
        rw [w2, w1, crashL_append]
        rfl
      rw [z1]
      have mo := mid_one (S keep) (h64 keep) hf hp (howL keep (0 + L.D.waits.length))
      rcases mo with mo | mo
      · exact .inl (.of mo hs hK)
      · exact .inr (.of mo (by show 1 - L.slot < 2; omega) hM)
    · have eE2 : L.tellE f p = 0 := eE.trans (if_neg h2)
      refine ⟨fun _ => ?_, fun h3 => absurd eE2 h3⟩
      obtain ⟨t1, t2, t3⟩ := tell_settle h f p h1 h2
      have S1 := S [1]
      rw [e1c] at S1
      have h641 := h64 [1]
      rw [e1c] at h641
      have sy := safe_tell S1 h641 hf hp t2 t3
      have b : (L.settle (L.D.seen 1)).tell f p = { L with D := ((L.settle (L.D.seen 1)).tellD f p).sync 1, slot := 1 - L.slot, number := L.number % 3 + 1, kept := f, pages := p } := (if_neg t2).trans (if_neg t3)
      rw [t1]
      refine ⟨sy, ?_⟩
      rw [b]
      exact ⟨rfl, rfl, rfl⟩

/-- a book: how many pages, and each of them -/
structure Bk where
  q : Nat
  K : Nat → ByteArray
/-- page n lies in the frames, the last time as t -/
def LiesF (fs : List Fr) (n : Nat) (t : ByteArray) : Prop := lastAt fs n ≠ 0 ∧ (fs[lastAt fs n - 1]?).map (·.text) = some t
def HoldsQ (B : Bk) (fs : List Fr) (p : Nat) : Prop := p = B.q ∧ ∀ n, n < B.q → LiesF fs n (B.K n)
structure InvQ (L : Lg) (B : Bk) : Prop where
  safe : Safe L
  kept : HoldsQ B (L.fs.take L.kept) L.pages
def LostQ (D : Dk) (B C : Bk) : Prop := D.down = true ∧ ∀ keep, TellsT (D.crash keep).l1 (HoldsQ B) ∨ TellsT (D.crash keep).l1 (HoldsQ C)
theorem lies_snoc {fs : List Fr} {n : Nat} {t : ByteArray} : LiesF (fs ++ [⟨n, t⟩]) n t := by
  unfold LiesF
  rw [lastAt_snoc, if_pos rfl]
  refine ⟨by omega, ?_⟩
  rw [show fs.length + 1 - 1 = fs.length by omega, List.getElem?_append_right (Nat.le_refl _), Nat.sub_self]
  rfl
theorem lies_other {fs : List Fr} {n m : Nat} {t s : ByteArray} (h : LiesF fs m s) (hn : m ≠ n) : LiesF (fs ++ [⟨n, t⟩]) m s := by
  obtain ⟨h1, h2⟩ := h
  unfold LiesF
  rw [lastAt_snoc, if_neg (show ¬ ((⟨n, t⟩ : Fr).n : Int) = m by show ¬ ((n : Nat) : Int) = m; omega)]
  refine ⟨h1, ?_⟩
  rw [List.getElem?_append_left (by have := lastAt_le fs m; omega)]
  exact h2
theorem InvQ.lost {L : Lg} {B : Bk} (h : InvQ L B) (hd : L.D.down = true) (C : Bk) : LostQ L.D B C := ⟨hd, fun keep => .inl (safe_tellsT h.safe h.kept keep)⟩
theorem InvQ.turned {L : Lg} {B : Bk} (h : InvQ L B) (hs : L.D.stops) : LostQ L.D.turn B B := by
  refine ⟨by unfold Dk.turn; rw [if_pos hs], fun keep => .inl ?_⟩
  rw [(crash_turn L.D keep).2]
  exact safe_tellsT h.safe h.kept keep
theorem LostQ.may {D : Dk} {B C : Bk} (h : LostQ D B B) : LostQ D B C := ⟨h.1, fun keep => .inl ((h.2 keep).elim id id)⟩
theorem append_eqQ {L : Lg} (hlen : L.fs.length ≤ 60000) {n : Nat} (hn : n ≤ 65536) {t : ByteArray} (ht : t.size = 1024) :
    L.appendE n t = L.D.turnE ∧ L.append n t = { L with D := L.D.change ⟨1, L.at_, bsOf (Fr.bytes ⟨n, t⟩), false⟩, fs := if L.D.stops then L.fs else L.fs ++ [⟨n, t⟩] } := by
  have hf : L.fitsA n t := ⟨by omega, by omega, ht⟩
  have hat : L.at_ = 64 + 1028 * L.fs.length := rfl
  have hfit : L.at_ + 1028 ≤ 67108864 := by omega
  have hb := Fr.bytes_len ⟨n, t⟩ ht
  have hw : fitsF (1 : Nat) (L.at_ : Nat) (bsOf (Fr.bytes ⟨n, t⟩)).size := fitsF_iff.2 ⟨by omega, by rw [bsOf_size]; omega⟩
  refine ⟨(if_pos hf).trans (if_pos hfit), (if_pos ⟨hf, hfit⟩).trans ?_⟩
  have e : L.D.write 1 L.at_ (bsOf (Fr.bytes ⟨n, t⟩)) = L.D.change ⟨1, L.at_, bsOf (Fr.bytes ⟨n, t⟩), false⟩ := by
    refine (if_pos hw).trans ?_
    rw [Int.toNat_natCast]; rfl
  rw [Int.toNat_natCast, e]
section
variable {L : Lg} {B C : Bk}
/-- a frame is appended -/
theorem append_q (h : InvQ L B) (hlen : L.fs.length ≤ 60000) {n : Nat} (hn : n ≤ 65536) {t : ByteArray} (ht : t.size = 1024) :
    InvQ (L.append n t) B ∧ (L.append n t).pages = L.pages ∧ (L.append n t).kept = L.kept ∧ (L.appendE n t = 0 → (L.append n t).fs = L.fs ++ [⟨n, t⟩] ∧ L.D.down = false ∧ (L.append n t).D.down = false) ∧ (L.appendE n t ≠ 0 → (L.append n t).fs = L.fs ∧ (L.append n t).D.down = true) := by
  obtain ⟨e1, e2⟩ := append_eqQ hlen hn ht
  have hs := safe_append h.safe n t
  have hkl := h.safe.ok.kept
  rw [e1]
  by_cases hst : L.D.stops
  · have eE : L.D.turnE = 2 := if_pos hst
    rw [e2, if_pos hst] at hs ⊢
    refine ⟨⟨hs, h.kept⟩, rfl, rfl, fun h2 => (by rw [eE] at h2; cases h2), fun _ => ⟨rfl, ?_⟩⟩
    have e3 : L.D.change ⟨1, L.at_, bsOf (Fr.bytes ⟨n, t⟩), false⟩ = L.D.turn := if_pos hst
    show (L.D.change _).down = true
    rw [e3]; unfold Dk.turn; rw [if_pos hst]
  · rw [e2, if_neg hst] at hs ⊢
    refine ⟨⟨hs, ?_⟩, rfl, rfl, fun _ => ⟨rfl, ?_, change_up hst⟩, fun h2 => absurd ((turnE_zero _).2 hst) h2⟩
    · show HoldsQ B ((L.fs ++ [_]).take L.kept) L.pages
      rw [List.take_append_of_le_length hkl]; exact h.kept
    · unfold Dk.stops at hst
      cases hd : L.D.down
      · rfl
      · exact absurd (.inl hd) hst
theorem back_q (h : InvQ L B) : InvQ L.back B := by
  refine ⟨safe_back h.safe, ?_⟩
  show HoldsQ B ((L.fs.take L.kept).take L.kept) L.pages
  rw [List.take_take, Nat.min_self]; exact h.kept
theorem commit_upQ {n : Int} {t : ByteArray} {p : Int} (he : L.commitE n t p = 0) : (L.commit n t p).D.down = false := by
  unfold Lg.commitE at he
  unfold Lg.commit
  by_cases h0 : 1 ≤ p ∧ p ≤ 65536
  · rw [if_pos h0] at he ⊢
    by_cases h1 : L.appendE n t = 0
    · rw [if_pos h1] at he ⊢
      by_cases h2 : (L.append n t).D.stops
      · rw [if_pos h2] at he; cases he
      · rw [if_neg h2] at he ⊢
        exact tell_live he
    · rw [if_neg h1] at he; exact absurd he h1
  · rw [if_neg h0] at he; cases he
/-- all frames are told -/
theorem commit_q (h : InvQ L B) (hlen : L.fs.length ≤ 60000) {n p : Nat} (hn : n ≤ 65536) (hp : 1 ≤ p ∧ p ≤ 65536) {t : ByteArray} (ht : t.size = 1024) (hC : HoldsQ C (L.fs ++ [⟨n, t⟩]) p) :
    (L.commitE n t p = 0 → InvQ (L.commit n t p) C ∧ (L.commit n t p).fs = L.fs ++ [⟨n, t⟩] ∧ (L.commit n t p).D.down = false) ∧ (L.commitE n t p ≠ 0 → LostQ (L.commit n t p).D B C) := by
  obtain ⟨hI, _, _, a1, a2⟩ := append_q h hlen hn ht
  have cE : L.commitE n t p = if L.appendE n t = 0 then (if (L.append n t).D.stops then 2 else ({ L.append n t with D := (L.append n t).D.sync 1 } : Lg).tellE (L.append n t).fs.length p) else L.appendE n t := (if_pos (by omega)).trans (by rw [Int.toNat_natCast])
  have cT : L.commit n t p = if L.appendE n t = 0 then (if (L.append n t).D.stops then { L.append n t with D := (L.append n t).D.sync 1 } else ({ L.append n t with D := (L.append n t).D.sync 1 } : Lg).tell (L.append n t).fs.length p) else L.append n t := (if_pos (by omega)).trans (by rw [Int.toNat_natCast])
  rw [cE, cT]
  clear cE cT
  by_cases hA : L.appendE n t = 0
  · obtain ⟨hL, _, hAd⟩ := a1 hA
    clear a1 a2
    rw [if_pos hA, if_pos hA]
    generalize L.append n t = A at *
    by_cases hst : A.D.stops
    · rw [if_pos hst, if_pos hst]
      refine ⟨fun h2 => (by cases h2), fun _ => ?_⟩
      have eY : A.D.sync 1 = A.D.turn := by
        unfold Dk.sync
        rw [if_pos (by decide), if_pos hst]
      show LostQ (A.D.sync 1) B _
      rw [eY]
      exact (hI.turned hst).may
    · rw [if_neg hst, if_neg hst]
      have sy := safe_sync hI.safe hst
      obtain ⟨X, hX⟩ : ∃ X : Lg, ({ A with D := A.D.sync 1 } : Lg) = X := ⟨_, rfl⟩
      have b1 : X.fs = A.fs := by rw [← hX]
      have b2 : X.kept = A.kept := by rw [← hX]
      have b3 : X.pages = A.pages := by rw [← hX]
      rw [hX] at sy ⊢
      rw [← b1]
      have hfs : X.fs = L.fs ++ [⟨n, t⟩] := b1.trans hL
      have h64 : 64 ≤ X.D.l1.length := by
        have hi : 0 < X.fs.length := by rw [hfs]; simp
        have hg := List.getElem?_eq_getElem hi
        have := partL_full (synced_lies sy hg) (Fr.bytes_len _ (sy.safe.ok.frames _ (List.mem_of_getElem? hg)).2) (by omega)
        omega
      have hM : HoldsQ C (X.fs.take X.fs.length) p := by
        rw [List.take_of_length_le (Nat.le_refl _), hfs]; exact hC
      have hK : HoldsQ B (X.fs.take X.kept) X.pages := by rw [b1, b2, b3]; exact hI.kept
      obtain ⟨o1, o2⟩ := tell_outT sy.safe (fun keep => by rw [(synced_crash sy keep).1]; exact sy) (fun keep => by rw [(synced_crash sy keep).2]; exact h64) (f := X.fs.length) (p := p) (Nat.le_refl _) (by omega) hK hM
      refine ⟨fun h2 => ?_, fun h2 => o2 h2⟩
      obtain ⟨p1, p3, p4, p5⟩ := o1 h2
      exact ⟨⟨p1.safe, by rw [p3, p4, p5]; exact hM⟩, by rw [p3]; exact hfs, tell_live h2⟩
  · rw [if_neg hA, if_neg hA]
    refine ⟨fun h2 => absurd h2 hA, fun _ => hI.lost (a2 hA).2 C⟩
theorem reads_q (ok : L.ok) {n : Nat} (hn : n ≤ 65536) {t : ByteArray} (h : LiesF L.fs n t) : (L.D.down = false → L.rw.readE n = 0 ∧ L.rw.readS n = t) ∧ (L.rw.readE n ≠ 0 → L.D.down = true) := by
  have key : L.D.down = false → L.rw.readE n = 0 ∧ L.rw.readS n = t := fun hd => by
    obtain ⟨e1, e2⟩ := rw_read ok hd n
    rw [← e1, ← e2]
    have r0 : 0 ≤ (n : Int) ∧ (n : Int) ≤ 2147483647 := by omega
    have rE : L.readE n = if lastAt L.fs n ≠ 0 then 0 else if (n : Int) < ((L.D.seen 0).length / 1024 : Nat) then 0 else 7 := (if_pos r0).trans (if_neg (by rw [hd]; decide))
    have rS : L.readS n = if lastAt L.fs n ≠ 0 then ((L.fs[lastAt L.fs n - 1]?).map (·.text)).getD ⟨#[]⟩ else if (n : Int) < ((L.D.seen 0).length / 1024 : Nat) then bsOf (partL (L.D.seen 0) (1024 * (n : Int).toNat) 1024) else ⟨#[]⟩ := if_pos ⟨r0.1, r0.2, hd⟩
    rw [rE, rS, if_pos h.1, if_pos h.1, h.2]
    exact ⟨rfl, rfl⟩
  refine ⟨key, fun hE => ?_⟩
  cases hd : L.D.down
  · exact absurd (key hd).1 hE
  · rfl
end
/-- two files tell a book: a log that is opened on them has it -/
theorem tells_opened {l0 l1 : List UInt8} {B : Bk} {f : Int} (h : TellsT l1 (HoldsQ B)) (n : Nat) : (Lg.opened (plainD l0 l1 f n)).D = plainD l0 l1 f n ∧ (Lg.opened (plainD l0 l1 f n)).pages = B.q ∧ ∀ m, m < B.q → LiesF (Lg.opened (plainD l0 l1 f n)).fs m (B.K m) := by
  obtain ⟨h1, h2⟩ := h
  have e : Lg.opened (plainD l0 l1 f n) = ⟨plainD l0 l1 f n, framesOf l1 (slotOf l1 (slotIx l1)).2.1, (slotOf l1 (slotIx l1)).2.1, (slotOf l1 (slotIx l1)).2.2, slotIx l1, (slotOf l1 (slotIx l1)).1⟩ := if_neg h1
  rw [e]
  exact ⟨rfl, h2.1, h2.2⟩

end Go.Proofs.Ytjihboddejaelaa

/-
  room of package pool.
-/
namespace Go.Proofs.Ytjihboddejaelaa
set_option linter.unusedVariables false
set_option linter.unusedSimpArgs false
open Go.RowKit
open Go.BigFrame
set_option linter.unusedVariables false
set_option linter.unusedSimpArgs false

theorem GM.len {R : Value → Option (DataW Unit × List MemPlace)} {w : World} {b c : Nat} {g : Int → Option Nat} {t e : TypeId} (ht : Try.prog.underlying t = some (.map 3 e)) (h : GM R w b g c) (ty : TypeId) :
    (Builtin.len_ #[t] ty #[.map (some b)]).run Try.prog w = .ok (.int .i64 (c : Int)) w := by
  obtain ⟨D, h1, h2, h3⟩ := h
  have := h1.len ht ty
  rw [h3] at this; exact this

section
variable {w w' : World} {b b' : List (Option Nat)} {gd g m1 m2 m1' m2' p e h t : Nat} {A A1 A2 : List Nat} {a : Nat} {P : Pl}
def PmPost (B : List (Option Nat)) (w : World) (gd g p e h t : Nat) (A : List Nat) (P : Pl) (v : Value) (en : Ending) (w' : World) : Prop :=
  en = .returned v ∧ ∃ b' m1' m2', PM w' b' gd g m1' m2' p e h t A P ∧ Turn B (allB b' g m1' m2' p e h t A) w w'
theorem pm_Append (H : PM w b gd g m1 m2 p e h t A P) (ok : P.L.ok) (fit : Fit P.L.D 1) (n : Int) (s : ByteArray) :
    Calls Try.prog 17 #[ptrB g, .int .i64 n, .string s] w (PmPost (allB b g m1 m2 p e h t A) w gd g p e h t A { P with L := P.L.append n s } (.int .i64 (P.L.appendE n s))) := by
  obtain ⟨e1, e2⟩ := rw_app ok n s
  refine (wal_Append b gd g m1 m2 P.L.rw n s w H.log fit (show P.L.fs.length ≤ _ by have := ok.len; omega)).mono fun en w' hp => ?_
  rw [← e1, ← e2] at hp
  obtain ⟨he, b', m1', m2', h1, h2⟩ := hp.maps
  obtain ⟨h3, h4⟩ := H.onLog h1 h2
  exact ⟨he, b', m1', m2', h3, h4⟩
def LeavesPost (w : World) (b : List (Option Nat)) (gd g m1 m2 p e h t a : Nat) (A A' : List Nat) (f : Pf) (P : Pl) (en : Ending) (w' : World) : Prop :=
  en = .returned (.tuple #[]) ∧ PM w' b gd g m1 m2 p e h t A' P ∧ (∃ x y, Has w' a 138 (frC f x y)) ∧ Turn (allB b g m1 m2 p e h t A) (allB b g m1 m2 p e h t A') w w'
theorem pm_leaveF {F1 F2 : List Pf} {f : Pf} (H : PM w b gd g m1 m2 p e h t (A1 ++ a :: A2) P) (hF : P.ring = F1 ++ f :: F2) (hl : A1.length = F1.length) (hnm : (P.ring.map (·.n)).Nodup) (hn : f.n ≤ 4294967296) :
    Calls Try.prog 95 #[ptrB p, ptrB a] w (fun en w' => LeavesPost w b gd g m1 m2 p e h t a (A1 ++ a :: A2) (A1 ++ A2) f { P with ring := F1 ++ F2 } en w' ∧ Turn (some h :: (e :: (A1 ++ a :: A2)).map some) (some h :: (e :: (A1 ++ a :: A2)).map some) w w') := by
  have hr := H.ring
  have hh := H.held
  rw [hF] at hr hh hnm
  refine (pool_leave p a e h (plCells g e h t P) A1 A2 F1 F2 f _ _ w H.has rfl hr hl hh H.hp hn).mono ?_
  rintro en w' ⟨he, h1, h2, h3, h4, h5⟩
  rw [heldOf_at hnm hl] at h2
  have hm : ∀ k, some k ∈ (some h :: (e :: (A1 ++ a :: A2)).map some) → some k ∈ pb p e h t (A1 ++ a :: A2) := fun k hk => by
    rw [mem_pb]
    rcases List.mem_cons.1 hk with hk | hk
    · cases hk; exact .inr (.inl rfl)
    · exact .inr (.inr (.inr (mem_somes.1 hk)))
  have hsub : ∀ k, some k ∈ pb p e h t (A1 ++ A2) → some k ∈ pb p e h t (A1 ++ a :: A2) := fun k hk => by
    rw [mem_pb] at hk ⊢
    rcases hk with hk | hk | hk | hk
    · exact .inl hk
    · exact .inr (.inl hk)
    · exact .inr (.inr (.inl hk))
    · refine .inr (.inr (.inr ?_))
      simp only [List.mem_cons, List.mem_append] at hk ⊢
      rcases hk with hk | hk | hk
      · exact .inl hk
      · exact .inr (.inl hk)
      · exact .inr (.inr (.inr hk))
  have htn : ¬ some t ∈ (some h :: (e :: (A1 ++ a :: A2)).map some) := fun hk => by
    rcases List.mem_cons.1 hk with hk | hk
    · cases hk; exact H.ht rfl
    · exact H.ring.off H.turned (mem_somes.1 hk)
  refine ⟨⟨he, ⟨?_, h3, h1, ?_, ?_, ?_, H.ht, ?_⟩, h4, ?_⟩, h5⟩
  · exact H.log.far h5 (fun k h6 h7 => H.off k h7 (hm k h6))
  · refine GM.congr (c := (F1 ++ F2).length) ?_ (fun x => (heldOf_del (a := a) hnm hl x).symm)
    have hc : (if (some a : Option Nat).isSome then (F1 ++ f :: F2).length - 1 else (F1 ++ f :: F2).length) = (F1 ++ F2).length := by
      rw [if_pos (show (some a : Option Nat).isSome = true from rfl), List.length_append, List.length_append, List.length_cons]; omega
    rw [hc] at h2
    exact h2
  · exact H.turned.turn h5 htn
  · intro hx
    refine H.hp ?_
    simp only [List.mem_cons, List.mem_append] at hx ⊢
    rcases hx with hk | hk | hk
    · exact .inl hk
    · exact .inr (.inl hk)
    · exact .inr (.inr (.inr hk))
  · exact fun k h6 h7 => H.off k h6 (hsub k h7)
  · refine h5.wide (fun k hk => List.mem_append_right _ (hm k hk)) (fun k hk => .inr ?_)
    rcases List.mem_append.1 hk with hk | hk
    · exact List.mem_append_left _ hk
    · exact List.mem_append_right _ (hsub k hk)
theorem pm_leave {F1 F2 : List Pf} {f : Pf} (H : PM w b gd g m1 m2 p e h t (A1 ++ a :: A2) P) (hF : P.ring = F1 ++ f :: F2) (hl : A1.length = F1.length) (hnm : (P.ring.map (·.n)).Nodup) (hn : f.n ≤ 4294967296) :
    Calls Try.prog 95 #[ptrB p, ptrB a] w (LeavesPost w b gd g m1 m2 p e h t a (A1 ++ a :: A2) (A1 ++ A2) f { P with ring := F1 ++ F2 }) :=
  (pm_leaveF H hF hl hnm hn).mono fun en w' h => h.1
end

theorem frInfo : (Try.prog.info? 138).map (fun i => i.size) = some 6 := by kernel_rfl
theorem fr_info : ∃ j, Try.prog.info? 138 = some j ∧ j.size ≠ 0 := by
  have h := frInfo
  cases hj : Try.prog.info? 138 with
  | none => rw [hj] at h; cases h
  | some j => rw [hj] at h; exact ⟨j, rfl, by have h2 : j.size = 6 := (by simpa using h); omega⟩
/-- two frames that are not the same -/
theorem neq_fr {w : World} {a b : Nat} {ta tb : TypeId} {ca cb : Array Value} (ha : Has w a ta ca) (hb : Has w b tb cb) (hne : ¬ a = b) : (binOp .neq 127 (ptrB a) (ptrB b)).run Try.prog w = .ok (.bool true) w := by
  obtain ⟨j, hj, hs⟩ := fr_info
  have hn : (⟨a, 0, none⟩ : Addr) ≠ ⟨b, 0, none⟩ := fun e => hne (by cases e; rfl)
  have h : ∀ d : Nat, (Op.equalIn (d + 1) 127 (ptrB a) (ptrB b)).run Try.prog w = .ok false w := fun d => by
    simp [Op.equalIn, run_underlying Try.underlying127, sizeOf, typeInfo, hj, hs, run_sameAddr_other w hn ha hb]
  simp only [binOp]
  simp [Op.equal, Op.maxDepth, h 9999]
theorem neq_fr_same (w : World) (a : Nat) : (binOp .neq 127 (ptrB a) (ptrB a)).run Try.prog w = .ok (.bool false) w := by
  obtain ⟨j, hj, hs⟩ := fr_info
  exact Lib.run_neq_ptr_same w _ Try.underlying127 hj
theorem head_drop {A : List Nat} {e k : Nat} (h : k < A.length) : (A.drop k).headD e = A[k] := by
  rw [List.drop_eq_getElem_cons h]; rfl
theorem head_end (A : List Nat) (e : Nat) : (A.drop A.length).headD e = e := by rw [List.drop_length]; rfl
theorem split_at {A : List Nat} {k : Nat} (h : k < A.length) : A = A.take k ++ A[k] :: A.drop (k + 1) := by
  rw [← List.drop_eq_getElem_cons h, List.take_append_drop]
theorem split_atF {F : List Pf} {k : Nat} (h : k < F.length) : F = F.take k ++ F[k] :: F.drop (k + 1) := by
  rw [← List.drop_eq_getElem_cons h, List.take_append_drop]
def RoomPost (B : List (Option Nat)) (w : World) (gd g p e h t : Nat) (P : Pl) (E : Int) (en : Ending) (w' : World) : Prop :=
  en = .returned (.int .i64 E) ∧ ∃ b' m1' m2' A', PM w' b' gd g m1' m2' p e h t A' P ∧ Turn B (allB b' g m1' m2' p e h t A') w w'
def blockOf : Value → Nat
  | .pointer (some a) => a.block
  | _ => 0

theorem idx_next {A1 A2 : List Nat} {a e : Nat} (h : (e :: (A1 ++ a :: A2)).Nodup) : (A1 ++ a :: A2).length - (A1 ++ a :: A2).idxOf (A2.headD e) < (A1 ++ a :: A2).length - (A1 ++ a :: A2).idxOf a := by
  rw [List.nodup_cons, List.nodup_append, List.nodup_cons] at h
  obtain ⟨he, h1, ⟨h2, h3⟩, h4⟩ := h
  have ha : a ∉ A1 := fun hm => h4 a hm a (List.mem_cons_self ..) rfl
  have e1 : (A1 ++ a :: A2).idxOf a = A1.length := by
    rw [List.idxOf_append, if_neg ha, List.idxOf_cons_self]; omega
  have e2 : A1.length < (A1 ++ a :: A2).idxOf (A2.headD e) := by
    rcases A2 with _ | ⟨b, A2⟩
    · rw [show ([] : List Nat).headD e = e from rfl, List.idxOf_eq_length (by simpa using he)]
      simp
    · show A1.length < (A1 ++ a :: b :: A2).idxOf b
      have hb : b ∉ A1 := fun hm => h4 b hm b (List.mem_cons_of_mem _ (List.mem_cons_self ..)) rfl
      have hab : ¬ a = b := fun x => h2 (x ▸ List.mem_cons_self ..)
      rw [List.idxOf_append, if_neg hb, List.idxOf_cons, beq_eq_false_iff_ne.2 hab]; simp; try omega
  have e3 : (A1 ++ a :: A2).length = A1.length + A2.length + 1 := by simp; omega
  rw [e1]
  omega

set_option maxRecDepth 100000 in
set_option maxHeartbeats 6400000 in
theorem pool_room (b : List (Option Nat)) (gd g m1 m2 p e h t : Nat) (A : List Nat) (P : Pl) (w : World) (H : PM w b gd g m1 m2 p e h t A P) (ok : P.ok) (fit : Fit P.L.D 1) :
    Calls Try.prog 86 #[.pointer (some ⟨p, 0, none⟩)] w (RoomPost (allB b g m1 m2 p e h t A) w gd g p e h t P.room.1 P.room.2) := by
  have HP := Lib.hid H
  have OK := Lib.hid ok
  have x0 : w.cell? ⟨p, 0, none⟩ = some (ptrB g) := H.has.cell 0
  have x1 : w.cell? ⟨p, 1, none⟩ = some (.int .i64 P.most) := H.has.cell 1
  have x2 : w.cell? ⟨p, 2, none⟩ = some (ptrB e) := H.has.cell 2
  have x3 : w.cell? ⟨p, 3, none⟩ = some (.map (some h)) := H.has.cell 3
  obtain ⟨q0, hq0⟩ : ∃ q, A.headD e = q := ⟨_, rfl⟩
  have e5 : w.cell? ⟨e, 5, none⟩ = some (ptrB q0) := by rw [← hq0]; exact H.ring.ends.cell 5
  have HQ0 := Lib.hid hq0
  clear hq0
  have hlen := (H.held.block (w' := w.drew) rfl).len Try.underlying128 3
  have AL := Lib.hid H.ring.len
  have FIT := Lib.hid fit
  by_cases hlt : P.ring.length < P.most
  · have hR : P.room = (P, 0) := if_pos hlt
    rw [hR]
    clear hR H ok fit
    go_enter Try.func86, Try.ntmps86
    go_wp2_with fail
    go_region
    go_wp2_with fail
    go_ret
    exact ⟨rfl, b, m1, m2, A, HP.out.below ((Below.refl _ _).drew), Turn.below _ ((Below.refl _ _).drew)⟩
  · have hR : P.room = match idle P.ring with | none => (P, 6) | some f => P.spill f := if_neg hlt
    have HR := Lib.hid hR
    have HD := Lib.hid (H.below ((Below.refl w.heap.size w).drew))
    have hbd : Below w.heap.size w w.drew := (Below.refl w.heap.size w).drew
    have ND := Lib.hid H.ring.nodup
    clear hR H ok fit
    go_enter Try.func86, Try.ntmps86
    go_wp2_with fail
    go_region
    go_wp2_with fail
    clear hlen x1 hlt
    go_loop [3] (fun v3 => ∃ k y : Nat, k ≤ A.length ∧ v3 = ptrB y ∧ Hid ((A.drop k).headD e = y) ∧ ∀ f ∈ P.ring.take k, f.pins ≠ 0) (fun v3 => A.length - A.idxOf (blockOf v3))
    case atStart => exact ⟨0, q0, Nat.zero_le _, rfl, HQ0.out, fun f hf => by simp at hf⟩
    case round =>
      obtain ⟨k, y, hk, rfl, HY, hpins⟩ := hrel
      have HPN := Lib.hid hpins
      clear hpins
      by_cases h1 : k < A.length
      · have hkF : k < P.ring.length := by have := AL.out; omega
        obtain ⟨F1, f, F2, hF, hlF⟩ : ∃ F1 f F2, P.ring = F1 ++ f :: F2 ∧ F1.length = k := ⟨P.ring.take k, P.ring[k], P.ring.drop (k + 1), split_atF hkF, by rw [List.length_take]; omega⟩
        obtain ⟨A1, a, A2, hA, hlA⟩ : ∃ A1 a A2, A = A1 ++ a :: A2 ∧ A1.length = k := ⟨A.take k, A[k], A.drop (k + 1), split_at h1, by rw [List.length_take]; omega⟩
        subst hA
        have hl : A1.length = F1.length := hlA.trans hlF.symm
        have hd : ((A1 ++ a :: A2).drop k).headD e = a := by rw [← hlA, List.drop_left]; rfl
        obtain rfl : a = y := hd.symm.trans HY.out
        have hr := HP.out.ring
        rw [hF] at hr
        have hat := hr.at hl
        have hp1 : ∀ g ∈ F1, g.pins ≠ 0 := fun g hg => HPN.out g (by rw [hF, ← hlF, List.take_left]; exact hg)
        have hae : ¬ a = e := fun x => (List.nodup_cons.1 hr.nodup).1 (x ▸ List.mem_append_right _ (List.mem_cons_self ..))
        have a0 : w.cell? ⟨a, 0, none⟩ = some (.int .i64 f.n) := hat.cell 0
        have a1 : w.cell? ⟨a, 1, none⟩ = some (.string f.s) := hat.cell 1
        have a2 : w.cell? ⟨a, 2, none⟩ = some (.int .i64 f.pins) := hat.cell 2
        have a3 : w.cell? ⟨a, 3, none⟩ = some (.bool f.dirty) := hat.cell 3
        obtain ⟨nx, hnx⟩ : ∃ nx, A2.headD e = nx := ⟨_, rfl⟩
        have a5 : w.cell? ⟨a, 5, none⟩ = some (ptrB nx) := by rw [← hnx]; exact hat.cell 5
        have HNX := Lib.hid hnx
        have hneq := neq_fr (w := w.drew) hat HP.out.ring.ends hae
        have FN := Lib.hid (show f.n ≤ 4294967296 by have := OK.out.pages f (by rw [hF]; exact List.mem_append_right _ (List.mem_cons_self ..)); have := OK.out.few; omega)
        have HF := Lib.hid hF; have HL := Lib.hid hl; have HLA := Lib.hid hlA; have HP1 := Lib.hid hp1
        clear hF hl hd hr hat hp1 hkF h1 hlF hlA hnx hae HY HQ0
        by_cases hp0 : f.pins = 0
        · rw [hp0] at a2
          have a2 : w.cell? ⟨a, 2, none⟩ = some (.int .i64 0) := a2
          have HI : Hid (P.room = P.spill f) := by
            have := HR.out
            rw [HF.out, idle_at HP1.out hp0] at this
            exact this
          have HDR := Lib.hid (show dropN f.n P.ring = F1 ++ F2 by have := OK.out.names; rw [HF.out] at this ⊢; exact dropN_mid this)
          clear hp0
          cases hdir : f.dirty
          · rw [hdir] at a3
            have LV := Lib.hid (pm_leave HD.out HF.out HL.out OK.out.names FN.out)
            have HS : Hid (P.room = ({ P with ring := F1 ++ F2 }, 0)) := by
              rw [HI.out]; unfold Pl.spill; rw [hdir, HDR.out]; rfl
            clear hdir
            go_wp2_with (go_at_call 95; refine LV.out.mono ?_; rintro e2 w1 ⟨rfl, hpm, _, ht⟩)
            go_ret
            rw [HS.out]
            exact ⟨rfl, b, m1, m2, A1 ++ A2, hpm, (Turn.below _ hbd).trans ht⟩
          · rw [hdir] at a3
            obtain ⟨E, hE⟩ : ∃ E, P.L.appendE f.n f.s = E := ⟨_, rfl⟩
            have AP := Lib.hid (fun u (hb : Below w.heap.size w u) => pm_Append (HP.out.below hb) OK.out.log FIT.out f.n f.s)
            have APT := Lib.hid (fun u (hb : Below w.heap.size w u) => Turn.below (allB b g m1 m2 p e h t (A1 ++ a :: A2)) hb)
            rw [hE] at AP
            have HS : Hid (P.room = if E = 0 then ({ P with L := P.L.append f.n f.s, spills := wrap64 (P.spills + 1), ring := F1 ++ F2 }, 0) else ({ P with L := P.L.append f.n f.s }, E)) := by
              rw [HI.out]; unfold Pl.spill; rw [hdir, HDR.out, hE]; rfl
            clear hdir hE
            go_wp2_with fail
            go_region_with (go_at_call 17; refine (AP.out _ (by repeat (first | exact Below.refl _ _ | refine Below.drew ?_))).mono ?_; rintro e2 w1 ⟨rfl, b1, n1, n2, hpm, ht⟩)
            all_goals
              have HM := Lib.hid hpm
              have HT := Lib.hid ((APT.out _ ((((Below.refl w.heap.size w).drew)).drew)).trans ht)
              clear hpm ht x0 x2 x3 e5 a0 a1 a2 a3 a5
              by_cases hE0 : E = 0
              · subst hE0
                have HS0 := Lib.hid (HS.out.trans (if_pos rfl))
                clear HS
                have y9 : w1.cell? ⟨p, 9, none⟩ = some (.int .i64 P.spills) := HM.out.has.cell 9
                have yf := HM.out.has.frozen
                have ST := Lib.hid (HM.out.set (P' := { P with L := P.L.append f.n f.s, spills := wrap64 (P.spills + 1) }) 9 (.int .i64 (wrap64 (P.spills + 1))) rfl rfl rfl rfl)
                have LV := Lib.hid (pm_leave ST.out.1 HF.out HL.out OK.out.names FN.out)
                go_wp2_with (go_at_call 95; refine LV.out.mono ?_; rintro e2 w2 ⟨rfl, hpm, _, ht⟩)
                go_ret
                rw [HS0.out]
                exact ⟨rfl, b1, n1, n2, A1 ++ A2, hpm, (HT.out.trans ST.out.2).trans ht⟩
              · have HS0 := Lib.hid (HS.out.trans (if_neg hE0))
                clear HS
                go_wp2_with fail
                go_ret
                rw [HS0.out]
                exact ⟨rfl, b1, n1, n2, A1 ++ a :: A2, HM.out, HT.out⟩
        · have g0 : (0 : Int) < (f.pins : Int) := by omega
          go_wp2_with fail
          go_round
          case rel =>
            refine ⟨k + 1, nx, ?_, rfl, ?_, fun x hx => ?_⟩
            · rw [List.length_append, List.length_cons, ← HLA.out]; omega
            · show ((A1 ++ a :: A2).drop (k + 1)).headD e = nx
              rw [← HLA.out, show (A1 ++ a :: A2).drop (A1.length + 1) = A2 by rw [List.drop_append]; simp]
              exact HNX.out
            · rw [HF.out, show k + 1 = (F1 ++ [f]).length by rw [List.length_append, List.length_singleton]; have := HL.out; have := HLA.out; omega, show F1 ++ f :: F2 = (F1 ++ [f]) ++ F2 by simp, List.take_left] at hx
              rcases List.mem_append.1 hx with hx | hx
              · exact HP1.out x hx
              · rw [List.mem_singleton.1 hx]; exact hp0
          case measure =>
            show (A1 ++ a :: A2).length - (A1 ++ a :: A2).idxOf nx < (A1 ++ a :: A2).length - (A1 ++ a :: A2).idxOf a
            rw [← HNX.out]
            exact idx_next ND.out
      · have hk2 : k = A.length := by omega
        subst hk2
        obtain rfl : e = y := (head_end A e).symm.trans HY.out
        have hneq := neq_fr_same w.drew e
        have HS : Hid (P.room = (P, 6)) := by
          have := HR.out
          rw [idle_none (fun f hf => HPN.out f (by rw [List.take_of_length_le (by have := AL.out; omega)]; exact hf))] at this
          exact this
        go_wp2_with fail
        go_ret
        rw [HS.out]
        exact ⟨rfl, b, m1, m2, A, HD.out, Turn.below _ hbd⟩

end Go.Proofs.Ytjihboddejaelaa

/-
  get of package pool.
-/
namespace Go.Proofs.Ytjihboddejaelaa
set_option linter.unusedVariables false
set_option linter.unusedSimpArgs false
open Go.RowKit
open Go.BigFrame
set_option linter.unusedVariables false
set_option linter.unusedSimpArgs false

section
variable {w w' : World} {b b' : List (Option Nat)} {gd g m1 m2 m1' m2' p e h t : Nat} {A A1 A2 : List Nat} {a : Nat} {P : Pl}
theorem pm_Read (H : PM w b gd g m1 m2 p e h t A P) (ok : P.L.ok) (x : Int) :
    Calls Try.prog 28 #[ptrB g, .int .i64 x] w fun en w' => en = .returned (.tuple #[.string (P.L.rw.readS x), .int .i64 (P.L.rw.readE x)]) ∧ w = w' :=
  wal_Read b gd g m1 m2 P.L.rw x w H.log ok.disk (show lastAt P.L.fs x ≤ _ by have := lastAt_le P.L.fs x; have := ok.len; omega)
def LastsPost (w : World) (b : List (Option Nat)) (gd g m1 m2 p e h t a : Nat) (A : List Nat) (P : Pl) (en : Ending) (w' : World) : Prop :=
  en = .returned (ptrB a) ∧ PM w' b gd g m1 m2 p e h t (A ++ [a]) P ∧ Turn (some a :: allB b g m1 m2 p e h t A) (allB b g m1 m2 p e h t (A ++ [a])) w w'
theorem mem_pb_snoc {k : Nat} : some k ∈ pb p e h t (A ++ [a]) ↔ k = a ∨ some k ∈ pb p e h t A := by
  rw [mem_pb, mem_pb]
  simp only [List.mem_cons, List.mem_append, List.mem_singleton, List.not_mem_nil, or_false]
  constructor
  · rintro (h | h | h | h | h | h) <;> simp [h]
  · rintro (h | h | h | h | h | h) <;> simp [h]
theorem pm_last {f : Pf} {va vb : Value} (H : PM w b gd g m1 m2 p e h t A P) (ha : Has w a 138 #[.int .i64 f.n, .string f.s, .int .i64 f.pins, .bool f.dirty, va, vb]) (hoff : some a ∉ allB b g m1 m2 p e h t A)
    (hn : ∀ q ∈ P.ring, (q.n : Int) ≠ (f.n : Int)) (hc : P.ring.length ≤ 1000) (hfn : f.n ≤ 4294967296) :
    Calls Try.prog 88 #[ptrB p, ptrB a] w (LastsPost w b gd g m1 m2 p e h t a A { P with ring := P.ring ++ [f] }) := by
  have ha1 : some a ∉ b ++ lb g m1 m2 := fun h2 => hoff (List.mem_append_left _ h2)
  have ha2 : some a ∉ pb p e h t A := fun h2 => hoff (List.mem_append_right _ h2)
  have hpa : ¬ p = a := fun x => ha2 (mem_pb.2 (.inl x.symm))
  have hea : a ∉ e :: A := fun x => ha2 (mem_pb.2 (.inr (.inr (.inr x))))
  have hta : ¬ t = a := fun x => ha2 (mem_pb.2 (.inr (.inr (.inl x.symm))))
  refine (pool_last p a e h (plCells g e h t P) A P.ring f va vb _ _ w H.has rfl rfl H.ring ha hea H.held H.hp hpa (by omega) hfn).mono ?_
  rintro en w' ⟨he, h1, h2, h3, h5⟩
  rw [heldOf_none hn] at h2
  have hm : ∀ k, some k ∈ (some a :: some h :: (e :: A).map some) → k = a ∨ some k ∈ pb p e h t A := fun k hk => by
    rcases List.mem_cons.1 hk with hk | hk
    · cases hk; exact .inl rfl
    · rcases List.mem_cons.1 hk with hk | hk
      · cases hk; exact .inr (mem_pb.2 (.inr (.inl rfl)))
      · exact .inr (mem_pb.2 (.inr (.inr (.inr (mem_somes.1 hk)))))
  refine ⟨he, ⟨?_, h3, h1, ?_, ?_, ?_, H.ht, ?_⟩, ?_⟩
  · refine H.log.far h5 (fun k h6 h7 => ?_)
    rcases hm k h6 with rfl | h8
    · exact ha1 h7
    · exact H.off k h7 h8
  · refine GM.congr (c := (P.ring ++ [f]).length) ?_ (fun x => (heldOf_snoc H.ring.len hn x).symm)
    rw [List.length_append, List.length_singleton]
    exact h2
  · refine H.turned.turn h5 (fun h6 => ?_)
    rcases List.mem_cons.1 h6 with hk | hk
    · cases hk; exact hta rfl
    · rcases List.mem_cons.1 hk with hk | hk
      · cases hk; exact H.ht rfl
      · exact H.ring.off H.turned (mem_somes.1 hk)
  · intro hx
    rw [← List.cons_append] at hx
    rcases List.mem_append.1 hx with hx | hx
    · exact H.hp hx
    · exact hpa (List.mem_singleton.1 hx)
  · intro k h6 h7
    rcases mem_pb_snoc.1 h7 with rfl | h8
    · exact ha1 h6
    · exact H.off k h6 h8
  · refine h5.wide (fun k hk => ?_) (fun k hk => .inr ?_)
    · rcases hm k hk with rfl | h8
      · exact List.mem_cons_self ..
      · exact List.mem_cons_of_mem _ (List.mem_append_right _ h8)
    · rcases List.mem_append.1 hk with hk | hk
      · exact List.mem_cons_of_mem _ (List.mem_append_left _ hk)
      · rcases mem_pb_snoc.1 hk with rfl | h8
        · exact List.mem_cons_self ..
        · exact List.mem_cons_of_mem _ (List.mem_append_right _ h8)
/-- a frame that was taken out lies beside the pool -/
theorem PM.beside {P1 : Pl} {t1 : TypeId} {cs : Array Value} (H : PM w b gd g m1 m2 p e h t (A1 ++ a :: A2) P) (H1 : PM w' b gd g m1 m2 p e h t (A1 ++ A2) P1) (ha : Has w' a t1 cs) : some a ∉ allB b g m1 m2 p e h t (A1 ++ A2) := by
  have hin : a ∈ e :: (A1 ++ a :: A2) := List.mem_cons_of_mem _ (List.mem_append_right _ (List.mem_cons_self ..))
  intro hk
  rcases List.mem_append.1 hk with hk | hk
  · exact H.off a hk (mem_pb.2 (.inr (.inr (.inr hin))))
  · rcases mem_pb.1 hk with rfl | rfl | rfl | hk
    · exact H.hp hin
    · exact H1.held.notcells ha
    · exact H1.turned.notcells ha
    · have nd := H.ring.nodup
      rw [List.nodup_cons, List.nodup_append, List.nodup_cons] at nd
      obtain ⟨he, n1, ⟨n2, n3⟩, n4⟩ := nd
      rcases List.mem_cons.1 hk with rfl | hk
      · exact he (List.mem_append_right _ (List.mem_cons_self ..))
      · rcases List.mem_append.1 hk with hk | hk
        · exact n4 a hk a (List.mem_cons_self ..) rfl
        · exact n2 hk
end
theorem pb_perm {p e h t a : Nat} {A1 A2 : List Nat} {k : Nat} (hk : some k ∈ pb p e h t ((A1 ++ A2) ++ [a])) : some k ∈ pb p e h t (A1 ++ a :: A2) := by
  rcases mem_pb_snoc.1 hk with rfl | hk
  · exact mem_pb.2 (.inr (.inr (.inr (List.mem_cons_of_mem _ (List.mem_append_right _ (List.mem_cons_self ..))))))
  · rw [mem_pb] at hk ⊢
    rcases hk with hk | hk | hk | hk
    · exact .inl hk
    · exact .inr (.inl hk)
    · exact .inr (.inr (.inl hk))
    · refine .inr (.inr (.inr ?_))
      simp only [List.mem_cons, List.mem_append] at hk ⊢
      rcases hk with hk | hk | hk
      · exact .inl hk
      · exact .inr (.inl hk)
      · exact .inr (.inr (.inr hk))
theorem pb_perm' {p e h t a : Nat} {A1 A2 : List Nat} {k : Nat} (hk : some k ∈ pb p e h t (A1 ++ A2)) : some k ∈ pb p e h t (A1 ++ a :: A2) := pb_perm (mem_pb_snoc.2 (.inr hk))

theorem turn_new {b : List (Option Nat)} {w w' : World} (hb : Below w.heap.size w w') {a : Nat} (ha : w.heap.size ≤ a) : Turn b (some a :: b) w w' :=
  ⟨hb.os, hb.tape, hb.output, hb.size, fun k hk _ => hb.block k hk, fun k hk => by
    rcases List.mem_cons.1 hk with hk | hk
    · cases hk; exact .inr ha
    · exact .inl hk⟩
/-- what get answers: a frame (the last one of the ring), or an error -/
def GetPost (B : List (Option Nat)) (w : World) (gd g p e h t : Nat) (P : Pl) (E : Int) (en : Ending) (w' : World) : Prop :=
  ∃ b' m1' m2' A', PM w' b' gd g m1' m2' p e h t A' P ∧ Turn B (allB b' g m1' m2' p e h t A') w w' ∧ ((E ≠ 0 ∧ en = .returned (.tuple #[.pointer none, .int .i64 E])) ∨ (E = 0 ∧ ∃ A0 a, A' = A0 ++ [a] ∧ en = .returned (.tuple #[ptrB a, .int .i64 0])))
def in64' (x : Int) : Prop := -9223372036854775808 ≤ x ∧ x ≤ 9223372036854775807

set_option maxRecDepth 100000 in
set_option maxHeartbeats 6400000 in
theorem pool_get (b : List (Option Nat)) (gd g m1 m2 p e h t : Nat) (A : List Nat) (P : Pl) (x : Int) (hx : in64' x) (w : World) (H : PM w b gd g m1 m2 p e h t A P) (ok : P.ok) (fit : Fit P.L.D 1) :
    Calls Try.prog 94 #[.pointer (some ⟨p, 0, none⟩), .int .i64 x] w (GetPost (allB b g m1 m2 p e h t A) w gd g p e h t (P.get x).1 (P.get x).2) := by
  have HP := Lib.hid H
  have OK := Lib.hid ok
  have FIT := Lib.hid fit
  have WN := Lib.hid (wfI hx.1 hx.2)
  have x0 : w.cell? ⟨p, 0, none⟩ = some (ptrB g) := H.has.cell 0
  have x3 : w.cell? ⟨p, 3, none⟩ = some (.map (some h)) := H.has.cell 3
  have x4 : w.cell? ⟨p, 4, none⟩ = some (.int .i64 P.pages) := H.has.cell 4
  have x7 : w.cell? ⟨p, 7, none⟩ = some (.int .i64 P.hits) := H.has.cell 7
  have xf := H.has.frozen
  by_cases hin : 0 ≤ x ∧ x < (P.pages : Int)
  · obtain ⟨i0, i1⟩ := hin
    have g0 : ¬ x < 0 := by omega
    have g1 : ¬ (P.pages : Int) ≤ x := by omega
    have HG := Lib.hid (show P.get x = match findN x P.ring with | some f => ({ P with hits := wrap64 (P.hits + 1), ring := dropN f.n P.ring ++ [f] }, 0) | none => if P.room.2 = 0 then P.room.1.fetch x.toNat else P.room from if_pos ⟨i0, i1⟩)
    cases hfd : findN x P.ring with
    | some f =>
      obtain ⟨F1, F2, hF, hfx, hne⟩ := find_split hfd
      have al := H.ring.len
      obtain ⟨A1, a, A2, hA, hl⟩ : ∃ A1 a A2, A = A1 ++ a :: A2 ∧ A1.length = F1.length := by
        have hk : F1.length < A.length := by rw [al, hF]; simp
        exact ⟨A.take F1.length, A[F1.length], A.drop (F1.length + 1), split_at hk, by rw [List.length_take]; omega⟩
      subst hA
      have nm := ok.names
      have HE : Hid (P.get x = ({ P with hits := wrap64 (P.hits + 1), ring := (F1 ++ F2) ++ [f] }, 0)) := by
        have := HG.out
        rw [hfd] at this
        have hd : dropN f.n P.ring = F1 ++ F2 := by rw [hF] at nm ⊢; exact dropN_mid nm
        dsimp only at this
        rw [hd] at this
        exact this
      have HK : Hid (ptrO (heldOf (A1 ++ a :: A2) P.ring x) = ptrB a) := by
        rw [← hfx, hF, heldOf_at (by rw [← hF]; exact nm) hl]; rfl
      have FN : f.n ≤ 4294967296 := by have := ok.pages f (by rw [hF]; exact List.mem_append_right _ (List.mem_cons_self ..)); have := ok.few; omega
      have ST := Lib.hid (H.set (P' := { P with hits := wrap64 (P.hits + 1) }) 7 (.int .i64 (wrap64 (P.hits + 1))) rfl rfl rfl rfl)
      have LV := Lib.hid (pm_leave ST.out.1 hF hl nm FN)
      have HM := Lib.hid H.held
      have HF := Lib.hid hF
      have NM := Lib.hid (names_split (show ((F1 ++ f :: F2).map (·.n)).Nodup by rw [← hF]; exact nm))
      have FL := Lib.hid (show (F1 ++ F2).length ≤ 1000 by have h1 := ok.full; have h2 := ok.most; rw [hF] at h1; simp at h1 ⊢; omega)
      have LST := Lib.hid (fun (w1 : World) (va vb : Value) (hp1 : PM w1 b gd g m1 m2 p e h t (A1 ++ A2) { P with hits := wrap64 (P.hits + 1), ring := F1 ++ F2 }) (ha : Has w1 a 138 #[.int .i64 f.n, .string f.s, .int .i64 f.pins, .bool f.dirty, va, vb]) =>
        pm_last hp1 ha (ST.out.1.beside hp1 ha) (fun q hq => (List.mem_append.1 hq).elim (NM.out.1 q) (NM.out.2.1 q)) FL.out FN)
      clear hF hfx hne hfd nm al hl H ok fit FN
      go_enter Try.func94, Try.ntmps94
      go_wp2_with (first
        | (at_lookup; refine wpList_lookup_fr _ rfl _ _ rfl h _ (heldOf (A1 ++ a :: A2) P.ring) rfl HM.out x rfl WN.out ?_; rw [HK.out])
        | (go_at_call 95; refine LV.out.mono ?_; rintro e2 w1 ⟨rfl, hpm, ⟨va, vb, ha⟩, ht⟩)
        | (go_at_call 88; refine (LST.out _ _ _ hpm ha).mono ?_; rintro e2 w2 ⟨rfl, hpm2, ht2⟩))
      go_ret2
      rw [HE.out]
      refine ⟨b, m1, m2, _, hpm2, ?_, .inr ⟨rfl, _, a, rfl, rfl⟩⟩
      refine ((ST.out.2.trans ht).wide (c := allB b g m1 m2 p e h t (A1 ++ a :: A2)) (c' := some a :: allB b g m1 m2 p e h t (A1 ++ A2)) (fun k hk => hk) (fun k hk => ?_)).trans ht2
      rcases List.mem_cons.1 hk with hk | hk
      · cases hk; exact .inr (List.mem_append_right _ (mem_pb.2 (.inr (.inr (.inr (List.mem_cons_of_mem _ (List.mem_append_right _ (List.mem_cons_self ..))))))))
      · exact .inl hk
    | none =>
      have hne := find_none hfd
      obtain ⟨n, rfl⟩ : ∃ n : Nat, x = n := ⟨x.toNat, by omega⟩
      have HK : Hid (ptrO (heldOf A P.ring n) = .pointer none) := by rw [heldOf_none hne]; rfl
      have HM := Lib.hid H.held
      have RM := Lib.hid (pool_room b gd g m1 m2 p e h t A P w H ok fit)
      have RO := Lib.hid (room_ok ok)
      have RS := Lib.hid (room_same (P := P))
      have HNE := Lib.hid hne
      have HQ := HG.out
      rw [hfd] at HQ
      dsimp only at HQ
      obtain ⟨R, hR⟩ : ∃ R, P.room.1 = R := ⟨_, rfl⟩
      obtain ⟨E, hE⟩ : ∃ E, P.room.2 = E := ⟨_, rfl⟩
      have hR2 : P.room = (R, E) := by rw [← hR, ← hE]
      rw [hR2] at RM RO RS HQ
      dsimp only at RM RO RS HQ
      have HQQ := Lib.hid HQ
      clear hfd hne hR hE hR2 HQ HG H ok fit i0 i1
      by_cases hE0 : E = 0
      · subst hE0
        obtain ⟨ER, hER⟩ : ∃ ER, R.L.rw.readE n = ER := ⟨_, rfl⟩
        obtain ⟨TX, hTX⟩ : ∃ TX, R.L.rw.readS n = TX := ⟨_, rfl⟩
        have RD : Hid (∀ (w1 : World) b1 n1 n2 A1, PM w1 b1 gd g n1 n2 p e h t A1 R → Calls Try.prog 28 #[ptrB g, .int .i64 (n : Int)] w1 fun en w' => en = .returned (.tuple #[.string TX, .int .i64 ER]) ∧ w1 = w') := fun w1 b1 n1 n2 A1 hq => by
          have := pm_Read hq RO.out.1.log n
          rw [hER, hTX] at this; exact this
        have HF : Hid (P.get n = if ER = 0 then ({ R with misses := wrap64 (R.misses + 1), ring := R.ring ++ [⟨n, TX, 0, false⟩] }, 0) else (R, ER)) := by
          have := HQQ.out
          rw [if_pos rfl] at this
          rw [this]
          unfold Pl.fetch
          rw [Int.toNat_natCast, hER, hTX]
          exact Lib.hid rfl
        clear hER hTX HQQ
        by_cases hr0 : ER = 0
        · subst hr0
          have HF0 := Lib.hid (HF.out.trans (if_pos rfl))
          clear HF
          have LST : Hid (∀ (w1 : World) b1 n1 n2 A1, PM w1 b1 gd g n1 n2 p e h t A1 R →
              Calls Try.prog 88 #[ptrB p, ptrB w1.heap.size] ((w1.setCell ⟨p, 8, none⟩ (.int .i64 (wrap64 (R.misses + 1)))).alloc (.cells #[.int .i64 (n : Int), .string TX, .int .i64 0, .bool false, .pointer none, .pointer none] 138))
                (fun en w' => en = .returned (ptrB w1.heap.size) ∧ PM w' b1 gd g n1 n2 p e h t (A1 ++ [w1.heap.size]) { R with misses := wrap64 (R.misses + 1), ring := R.ring ++ [⟨n, TX, 0, false⟩] } ∧ Turn (allB b1 g n1 n2 p e h t A1) (allB b1 g n1 n2 p e h t (A1 ++ [w1.heap.size])) w1 w')) := fun w1 b1 n1 n2 A1 hq => by
            obtain ⟨s1, s2⟩ := hq.set (P' := { R with misses := wrap64 (R.misses + 1) }) 8 (.int .i64 (wrap64 (R.misses + 1))) rfl rfl rfl rfl
            have hb : Below (w1.setCell ⟨p, 8, none⟩ (.int .i64 (wrap64 (R.misses + 1)))).heap.size (w1.setCell ⟨p, 8, none⟩ (.int .i64 (wrap64 (R.misses + 1)))) ((w1.setCell ⟨p, 8, none⟩ (.int .i64 (wrap64 (R.misses + 1)))).alloc (.cells #[.int .i64 (n : Int), .string TX, .int .i64 0, .bool false, .pointer none, .pointer none] 138)) := (Below.refl _ _).alloc (Nat.le_refl _) _
            have hz : (w1.setCell ⟨p, 8, none⟩ (.int .i64 (wrap64 (R.misses + 1)))).heap.size = w1.heap.size := by simp
            have hnew := Has.new (w1.setCell ⟨p, 8, none⟩ (.int .i64 (wrap64 (R.misses + 1)))) 138 #[.int .i64 (n : Int), .string TX, .int .i64 0, .bool false, .pointer none, .pointer none]
            rw [hz] at hnew
            have hlt := RO.out.2 rfl
            refine (pm_last (f := ⟨n, TX, 0, false⟩) (s1.below hb) hnew (fun hk => ?_) (fun q hq2 => HNE.out q (RS.out.2.2.2.2 q hq2)) ?_ ?_).mono ?_
            · have := hq.lt _ hk; omega
            · show R.ring.length ≤ 1000
              have := OK.out.most; have := RO.out.1.full; have := RO.out.1.most; omega
            · show n ≤ 4294967296
              have := OK.out.few; omega
            · rintro en w' ⟨he, h1, h2⟩
              refine ⟨he, h1, (s2.trans (turn_new hb (a := w1.heap.size) (by rw [hz]; exact Nat.le_refl _))).trans h2⟩
          go_enter Try.func94, Try.ntmps94
          go_wp2_with (first
            | (at_lookup; refine wpList_lookup_fr _ rfl _ _ rfl h _ (heldOf A P.ring) rfl HM.out n rfl WN.out ?_; rw [HK.out])
            | (go_at_call 86; refine RM.out.mono ?_; rintro e2 w1 ⟨rfl, b1, n1, n2, A1, hpm, ht⟩; have y0 : w1.cell? ⟨p, 0, none⟩ = some (ptrB g) := hpm.has.cell 0; have y8 : w1.cell? ⟨p, 8, none⟩ = some (.int .i64 R.misses) := hpm.has.cell 8; have yf := hpm.has.frozen)
            | (go_at_call 28; refine (RD.out _ _ _ _ _ hpm).mono ?_; rintro e2 w2 ⟨rfl, rfl⟩)
            | (go_at_call 88; refine (LST.out _ _ _ _ _ hpm).mono ?_; rintro e2 w2 ⟨rfl, hpm2, ht2⟩))
          go_ret2
          rw [HF0.out]
          exact ⟨b1, n1, n2, _, hpm2, ht.trans ht2, .inr ⟨rfl, _, _, rfl, rfl⟩⟩
        · have HF0 := Lib.hid (HF.out.trans (if_neg hr0))
          clear HF
          go_enter Try.func94, Try.ntmps94
          go_wp2_with (first
            | (at_lookup; refine wpList_lookup_fr _ rfl _ _ rfl h _ (heldOf A P.ring) rfl HM.out n rfl WN.out ?_; rw [HK.out])
            | (go_at_call 86; refine RM.out.mono ?_; rintro e2 w1 ⟨rfl, b1, n1, n2, A1, hpm, ht⟩; have y0 : w1.cell? ⟨p, 0, none⟩ = some (ptrB g) := hpm.has.cell 0)
            | (go_at_call 28; refine (RD.out _ _ _ _ _ hpm).mono ?_; rintro e2 w2 ⟨rfl, rfl⟩))
          go_ret2
          rw [HF0.out]
          exact ⟨b1, n1, n2, A1, hpm, ht, .inl ⟨hr0, rfl⟩⟩
      · have HF : Hid (P.get n = (R, E)) := by
          have := HQQ.out
          rw [if_neg hE0] at this
          exact this
        clear HQQ
        go_enter Try.func94, Try.ntmps94
        go_wp2_with (first
          | (at_lookup; refine wpList_lookup_fr _ rfl _ _ rfl h _ (heldOf A P.ring) rfl HM.out n rfl WN.out ?_; rw [HK.out])
          | (go_at_call 86; refine RM.out.mono ?_; rintro e2 w1 ⟨rfl, b1, n1, n2, A1, hpm, ht⟩))
        go_ret2
        rw [HF.out]
        exact ⟨b1, n1, n2, A1, hpm, ht, .inl ⟨hE0, rfl⟩⟩
  · have HE : Hid (P.get x = (P, 7)) := if_neg hin
    clear H ok fit
    by_cases g0 : x < 0
    · go_enter Try.func94, Try.ntmps94
      go_wp2_with fail
      go_ret2
      rw [HE.out]
      exact ⟨b, m1, m2, A, HP.out, Turn.refl _ _, .inl ⟨(by show (7 : Int) ≠ 0; decide), rfl⟩⟩
    · have g1 : (P.pages : Int) ≤ x := by omega
      clear hin
      go_enter Try.func94, Try.ntmps94
      go_wp2_with fail
      go_ret2
      rw [HE.out]
      exact ⟨b, m1, m2, A, HP.out, Turn.refl _ _, .inl ⟨(by show (7 : Int) ≠ 0; decide), rfl⟩⟩

end Go.Proofs.Ytjihboddejaelaa

/-
  Read, put, Write, Pages of package pool.
-/
namespace Go.Proofs.Ytjihboddejaelaa
set_option linter.unusedVariables false
set_option linter.unusedSimpArgs false
open Go.RowKit
open Go.BigFrame
set_option linter.unusedVariables false
set_option linter.unusedSimpArgs false

section
variable {w w' : World} {b b' : List (Option Nat)} {gd g m1 m2 m1' m2' p e h t : Nat} {A A1 A2 : List Nat} {a : Nat} {P : Pl}
/-- a frame of the ring turns, its page stays -/
theorem PM.frame {F1 F2 : List Pf} {f f' : Pf} (H : PM w b gd g m1 m2 p e h t (A1 ++ a :: A2) P) (hF : P.ring = F1 ++ f :: F2) (hl : A1.length = F1.length) (i : Nat) (v : Value) (hn : f'.n = f.n) (hc : ∀ x y, (frC f x y).setIfInBounds i v = frC f' x y) :
    PM (w.setCell ⟨a, i, none⟩ v) b gd g m1 m2 p e h t (A1 ++ a :: A2) { P with ring := F1 ++ f' :: F2 } ∧ Turn (allB b g m1 m2 p e h t (A1 ++ a :: A2)) (allB b g m1 m2 p e h t (A1 ++ a :: A2)) w (w.setCell ⟨a, i, none⟩ v) := by
  have hin : a ∈ e :: (A1 ++ a :: A2) := List.mem_cons_of_mem _ (List.mem_append_right _ (List.mem_cons_self ..))
  have hm : some a ∈ pb p e h t (A1 ++ a :: A2) := mem_pb.2 (.inr (.inr (.inr hin)))
  have hr := H.ring
  rw [hF] at hr
  have hat := hr.at hl
  have nd := hr.nodup
  rw [List.nodup_cons, List.nodup_append, List.nodup_cons] at nd
  obtain ⟨he, n1, ⟨n2, n3⟩, n4⟩ := nd
  have hea : ¬ e = a := fun x => he (x ▸ List.mem_append_right _ (List.mem_cons_self ..))
  have hpa : ¬ p = a := fun x => H.hp (x ▸ hin)
  have hha : ¬ h = a := fun x => by subst x; exact H.held.notcells hat
  have hta : ¬ t = a := fun x => by subst x; exact H.turned.notcells hat
  have ht := set_turn [some a] a i v w (List.mem_singleton.2 rfl)
  refine ⟨⟨?_, H.has.far hpa v, ⟨hr.nodup, hr.ends.far hea v, ?_⟩, ?_, H.turned.far hta v, H.hp, H.ht, H.off⟩, set_turn _ a i v w (List.mem_append_right _ hm)⟩
  · exact H.log.far ht (fun k h5 h6 => by cases List.mem_singleton.1 h5; exact H.off a h6 hm)
  · exact seg_put hr.row hl (fun x => n4 a x a (List.mem_cons_self ..) rfl) n2 (fun x hx => Below.heap_setCell _ _ _ _ hx) (fun x y hh => by have := hh.set i v; rw [hc] at this; exact this)
  · have hg := H.held.far (p := ⟨a, i, none⟩) hha v
    have hlen : (F1 ++ f' :: F2).length = P.ring.length := by rw [hF]; simp
    show GM frElem _ h (heldOf _ (F1 ++ f' :: F2)) (F1 ++ f' :: F2).length
    rw [hlen]
    refine hg.congr fun x => ?_
    rw [hF, heldOf_app hl, heldOf_app hl, heldOf, heldOf, hn]
theorem turnOf_ins (n : Nat) (T : List Nat) (x : Int) : turnOf (insN n T) x = if x = n then some 1 else turnOf T x := by
  unfold insN
  by_cases hx : x = n
  · subst hx
    rw [if_pos rfl]
    unfold turnOf
    rw [if_pos]
    split
    · rename_i h; exact ⟨n, h, rfl⟩
    · exact ⟨n, List.mem_cons_self .., rfl⟩
  · rw [if_neg hx]
    split
    · rfl
    · unfold turnOf
      have : (∃ m ∈ n :: T, (m : Int) = x) ↔ ∃ m ∈ T, (m : Int) = x := by
        constructor
        · rintro ⟨m, hm, e⟩
          rcases List.mem_cons.1 hm with rfl | hm
          · exact absurd e.symm hx
          · exact ⟨m, hm, e⟩
        · rintro ⟨m, hm, e⟩; exact ⟨m, List.mem_cons_of_mem _ hm, e⟩
      simp only [this]
theorem turnOf_some (n : Nat) (T : List Nat) : (turnOf T n).isSome = decide (n ∈ T) := by
  unfold turnOf
  by_cases hn : n ∈ T
  · rw [if_pos ⟨n, hn, rfl⟩, decide_eq_true hn]; rfl
  · rw [if_neg, decide_eq_false hn]
    · rfl
    · rintro ⟨m, hm, e⟩
      have : m = n := by omega
      exact hn (this ▸ hm)
/-- a page is told as turned -/
theorem PM.tell {n : Nat} (H : PM w b gd g m1 m2 p e h t A P) (hm : GM (plainElem Try.prog 3) w' t (fun z => if z = (n : Int) then some 1 else turnOf P.turned z) (if (turnOf P.turned n).isSome then P.turned.length else P.turned.length + 1)) (hg : w.grownBy w' (some t)) :
    PM w' b gd g m1 m2 p e h t A { P with turned := insN n P.turned } ∧ Turn (allB b g m1 m2 p e h t A) (allB b g m1 m2 p e h t A) w w' := by
  have hm2 : some t ∈ pb p e h t A := mem_pb.2 (.inr (.inr (.inl rfl)))
  have ht := grown_turn hg (List.mem_singleton.2 rfl : some t ∈ [some t])
  have hpt : ¬ p = t := fun x => by subst x; exact H.turned.notcells H.has
  have hne := H.ring.off H.turned
  refine ⟨⟨?_, H.has.grown hg (fun x => hpt (Option.some.inj x)), H.ring.grown hg (fun x hx y => hne (Option.some.inj y ▸ hx)), H.held.turn ht (fun x => H.ht (Option.some.inj (List.mem_singleton.1 x))), ?_, H.hp, H.ht, H.off⟩, grown_turn hg (List.mem_append_right _ hm2)⟩
  · exact H.log.far ht (fun k h5 h6 => by cases List.mem_singleton.1 h5; exact H.off t h6 hm2)
  · have hc : (if (turnOf P.turned n).isSome then P.turned.length else P.turned.length + 1) = (insN n P.turned).length := by
      rw [turnOf_some]; unfold insN
      by_cases hn : n ∈ P.turned
      · simp [hn]
      · simp [hn]
    rw [hc] at hm
    exact hm.congr fun x => (turnOf_ins n P.turned x).symm
end

/-- the frame that get answers -/
theorem get_last {P : Pl} (ok : P.ok) {x : Int} (h : (P.get x).2 = 0) : ∃ F0 f, (P.get x).1.ring = F0 ++ [f] ∧ (f.n : Int) = x ∧ 0 ≤ x ∧ x < (P.pages : Int) := by
  unfold Pl.get at h ⊢
  split
  · rename_i hx
    rw [if_pos hx] at h
    split
    · rename_i f hf
      obtain ⟨F1, F2, e, h1, h2⟩ := find_split hf
      exact ⟨_, f, rfl, h1, hx.1, hx.2⟩
    · rename_i hf
      rw [hf] at h
      dsimp only at h
      split
      · rename_i hr
        rw [if_pos hr] at h
        unfold Pl.fetch at h ⊢
        split
        · exact ⟨_, _, rfl, Int.toNat_of_nonneg hx.1, hx.1, hx.2⟩
        · rename_i hE
          rw [if_neg hE] at h; exact absurd h hE
      · rename_i hr
        rw [if_neg hr] at h; exact absurd h hr
  · rename_i hx
    rw [if_neg hx] at h; cases h
theorem lastF_snoc {P : Pl} {F0 : List Pf} {f : Pf} (h : P.ring = F0 ++ [f]) : P.lastF = f ∧ ∀ f', P.setLast f' = { P with ring := F0 ++ [f'] } := by
  unfold Pl.lastF Pl.setLast
  rw [h]
  exact ⟨by simp, fun f' => by simp⟩

theorem nodup_le : ∀ (n : Nat) (T : List Nat), T.Nodup → (∀ x ∈ T, x < n) → T.length ≤ n
  | 0, T, _, h => by
    cases T with
    | nil => exact Nat.le_refl _
    | cons x t => exact absurd (h x (List.mem_cons_self ..)) (by omega)
  | n + 1, T, hn, h => by
    have h1 := nodup_le n (T.erase n) (hn.erase n) (fun x hx => by
      have h2 := h x (List.mem_of_mem_erase hx)
      have h3 : x ≠ n := fun e => by subst e; exact (hn.mem_erase_iff.1 hx).1 rfl
      omega)
    rw [List.length_erase] at h1
    split at h1 <;> omega
/-- a frame, the last one of the ring -/
def GotPost (B : List (Option Nat)) (w : World) (gd g p e h t : Nat) (P : Pl) (F0 : List Pf) (f : Pf) (en : Ending) (w' : World) : Prop :=
  ∃ b' m1' m2' A0 a, PM w' b' gd g m1' m2' p e h t (A0 ++ [a]) P ∧ Turn B (allB b' g m1' m2' p e h t (A0 ++ [a])) w w' ∧ en = .returned (.tuple #[ptrB a, .int .i64 0]) ∧ A0.length = F0.length ∧ ∃ x y, Has w' a 138 (frC f x y)
def MissPost (B : List (Option Nat)) (w : World) (gd g p e h t : Nat) (P : Pl) (E : Int) (en : Ending) (w' : World) : Prop :=
  ∃ b' m1' m2' A', PM w' b' gd g m1' m2' p e h t A' P ∧ Turn B (allB b' g m1' m2' p e h t A') w w' ∧ en = .returned (.tuple #[.pointer none, .int .i64 E])
theorem get_got {B : List (Option Nat)} {w w' : World} {gd g p e h t : Nat} {P : Pl} {en : Ending} {F0 : List Pf} {f : Pf} (hF : P.ring = F0 ++ [f]) (hg : GetPost B w gd g p e h t P 0 en w') : GotPost B w gd g p e h t P F0 f en w' := by
  obtain ⟨b', n1, n2, A', h1, h2, ⟨h3, _⟩ | ⟨_, A0, a, rfl, h3⟩⟩ := hg
  · exact absurd rfl h3
  · have hr := h1.ring
    rw [hF] at hr
    have hl : A0.length = F0.length := by have := hr.len; simp at this; omega
    exact ⟨b', n1, n2, A0, a, h1, h2, h3, hl, _, _, hr.at (A2 := []) (F2 := []) hl⟩
theorem get_miss {B : List (Option Nat)} {w w' : World} {gd g p e h t : Nat} {P : Pl} {E : Int} {en : Ending} (hE : ¬ E = 0) (hg : GetPost B w gd g p e h t P E en w') : MissPost B w gd g p e h t P E en w' := by
  obtain ⟨b', n1, n2, A', h1, h2, ⟨_, h3⟩ | ⟨h3, _⟩⟩ := hg
  · exact ⟨b', n1, n2, A', h1, h2, h3⟩
  · exact absurd h3 hE
/-- what Read answers -/
def ReadPost (B : List (Option Nat)) (w : World) (gd g p e h t : Nat) (P : Pl) (s : ByteArray) (E : Int) (en : Ending) (w' : World) : Prop :=
  en = .returned (.tuple #[.string s, .int .i64 E]) ∧ ∃ b' m1' m2' A', PM w' b' gd g m1' m2' p e h t A' P ∧ Turn B (allB b' g m1' m2' p e h t A') w w'
def Pl.text (P : Pl) (x : Int) : ByteArray := if (P.get x).2 = 0 then (P.get x).1.lastF.s else ⟨#[]⟩

set_option maxRecDepth 100000 in
set_option maxHeartbeats 6400000 in
theorem pool_Read (b : List (Option Nat)) (gd g m1 m2 p e h t : Nat) (A : List Nat) (P : Pl) (x : Int) (hx : in64' x) (w : World) (H : PM w b gd g m1 m2 p e h t A P) (ok : P.ok) (fit : Fit P.L.D 1) :
    Calls Try.prog 89 #[.pointer (some ⟨p, 0, none⟩), .int .i64 x] w (ReadPost (allB b g m1 m2 p e h t A) w gd g p e h t (P.get x).1 (P.text x) (P.get x).2) := by
  have GT := Lib.hid (pool_get b gd g m1 m2 p e h t A P x hx w H ok fit)
  have GL := Lib.hid (get_last ok (x := x))
  have TX : Hid (P.text x = if (P.get x).2 = 0 then (P.get x).1.lastF.s else ⟨#[]⟩) := rfl
  obtain ⟨T, hT⟩ : ∃ T, P.text x = T := ⟨_, rfl⟩
  obtain ⟨Q, hQ⟩ : ∃ Q, (P.get x).1 = Q := ⟨_, rfl⟩
  obtain ⟨E, hE⟩ : ∃ E, (P.get x).2 = E := ⟨_, rfl⟩
  rw [hT, hQ, hE] at TX
  rw [hQ, hE] at GT GL
  rw [hT, hQ, hE]
  clear H ok fit hT hQ hE
  by_cases hE0 : E = 0
  · subst hE0
    obtain ⟨F0, f, hF, hfx, i0, i1⟩ := GL.out rfl
    have HT : Hid (T = f.s) := by have := TX.out; rw [if_pos rfl, (lastF_snoc hF).1] at this; exact this
    have HF := Lib.hid hF
    clear TX GL hfx i0 i1 hF
    have G0 := Lib.hid (GT.out.mono fun en w' hg => get_got HF.out hg)
    clear GT
    go_enter Try.func89, Try.ntmps89
    go_wp2_with (go_at_call 94; refine G0.out.mono ?_; rintro en w1 ⟨b1, n1, n2, A0, a, hpm, ht, rfl, hl, xa, ya, hat⟩; have HL := Lib.hid hl; clear hl; have a1 : w1.cell? ⟨a, 1, none⟩ = some (.string f.s) := hat.cell 1)
    go_ret2
    rw [HT.out]
    exact ⟨rfl, b1, n1, n2, _, hpm, ht⟩
  · have HT : Hid (T = ⟨#[]⟩) := by have := TX.out; rw [if_neg hE0] at this; exact this
    have G0 := Lib.hid (GT.out.mono fun en w' hg => get_miss hE0 hg)
    clear TX GL GT
    go_enter Try.func89, Try.ntmps89
    go_wp2_with (go_at_call 94; refine G0.out.mono ?_; rintro en w1 ⟨b1, n1, n2, A1, hpm, ht, rfl⟩)
    go_ret2
    rw [HT.out]
    exact ⟨rfl, b1, n1, n2, _, hpm, ht⟩

theorem put_eq {P : Pl} {x : Int} {s : ByteArray} {F0 : List Pf} {f : Pf} (h : (P.get x).2 = 0) (hF : (P.get x).1.ring = F0 ++ [f]) (hn : (f.n : Int) = x) :
    P.put x s = ({ (P.get x).1 with ring := F0 ++ [{ f with s := s, dirty := true }], turned := insN f.n (P.get x).1.turned }, 0) := by
  unfold Pl.put
  rw [if_pos h, (lastF_snoc hF).1, (lastF_snoc hF).2, ← hn, Int.toNat_natCast]
set_option maxRecDepth 100000 in
set_option maxHeartbeats 6400000 in
theorem pool_put (b : List (Option Nat)) (gd g m1 m2 p e h t : Nat) (A : List Nat) (P : Pl) (x : Int) (hx : in64' x) (s : ByteArray) (w : World) (H : PM w b gd g m1 m2 p e h t A P) (ok : P.ok) (fit : Fit P.L.D 1) :
    Calls Try.prog 92 #[.pointer (some ⟨p, 0, none⟩), .int .i64 x, .string s] w (RoomPost (allB b g m1 m2 p e h t A) w gd g p e h t (P.put x s).1 (P.put x s).2) := by
  have GT := Lib.hid (pool_get b gd g m1 m2 p e h t A P x hx w H ok fit)
  have GOK := Lib.hid (get_ok ok x)
  by_cases hE0 : (P.get x).2 = 0
  · obtain ⟨F0, f, hF, hfx, i0, i1⟩ := get_last ok hE0
    have HE := Lib.hid (put_eq (s := s) hE0 hF hfx)
    obtain ⟨Q, hQ⟩ : ∃ Q, (P.get x).1 = Q := ⟨_, rfl⟩
    rw [hQ] at hF
    rw [hQ, hE0] at GT
    rw [hQ] at HE GOK
    have HF := Lib.hid hF
    have WN := Lib.hid (wfI hx.1 hx.2)
    have TL := Lib.hid (Nat.le_trans (nodup_le _ _ GOK.out.turnd GOK.out.turns) (Nat.le_trans GOK.out.few (by decide : 65536 ≤ 100000000)))
    have G0 := Lib.hid (GT.out.mono fun en w' hg => get_got HF.out hg)
    subst hfx
    clear H ok fit hE0 hF hQ i0 i1 GT
    go_enter Try.func92, Try.ntmps92
    go_upto_region 6 with (go_at_call 94; refine G0.out.mono ?_; rintro en w1 ⟨b1, n1, n2, A0, a, hpm, ht, rfl, hl, xa, ya, hat⟩; have HL := Lib.hid hl; have HM := Lib.hid hpm; have HT := Lib.hid ht; clear hl ht; have a1 : w1.cell? ⟨a, 1, none⟩ = some (.string f.s) := hat.cell 1; have a3 : w1.cell? ⟨a, 3, none⟩ = some (.bool f.dirty) := hat.cell 3; have af := hat.frozen; clear hpm hat)
    obtain ⟨s1, t1⟩ := HM.out.frame (f' := { f with s := s }) (A2 := []) (F2 := []) HF.out HL.out 1 (.string s) rfl (fun x y => rfl)
    obtain ⟨s2, t2⟩ := s1.frame (f' := { f with s := s, dirty := true }) (A2 := []) (F1 := F0) (F2 := []) rfl HL.out 3 (.bool true) rfl (fun x y => rfl)
    have S2 := Lib.hid s2
    have T2 := Lib.hid ((HT.out.trans t1).trans t2)
    clear s1 t1 s2 t2 a1 a3 af
    generalize (w1.setCell ⟨a, 1, none⟩ (.string s)).setCell ⟨a, 3, none⟩ (.bool true) = W at *
    have y6 : W.cell? ⟨p, 6, none⟩ = some (.map (some t)) := S2.out.has.cell 6
    have MT := Lib.hid S2.out.turned
    go_wp2_with (at_mapUpdate; refine wpList_put_gm _ rfl _ _ _ 102 3 rfl Try.underlying102 t _ _ rfl MT.out TL.out (f.n : Int) rfl WN.out _ 1 rfl [] (intElem 1 (by omega)) ?_; intro w3 hm3 hg3)
    go_ret
    obtain ⟨s3, t3⟩ := S2.out.tell (n := f.n) hm3 hg3
    rw [HE.out]
    exact ⟨rfl, b1, n1, n2, _, s3, T2.out.trans t3⟩
  · have HE : Hid (P.put x s = P.get x) := if_neg hE0
    rw [HE.out]
    obtain ⟨Q, hQ⟩ : ∃ Q, (P.get x).1 = Q := ⟨_, rfl⟩
    obtain ⟨E, hE⟩ : ∃ E, (P.get x).2 = E := ⟨_, rfl⟩
    rw [hQ, hE] at GT
    rw [hQ, hE]
    rw [hE] at hE0
    have G0 := Lib.hid (GT.out.mono fun en w' hg => get_miss hE0 hg)
    clear H ok fit hQ hE GT
    go_enter Try.func92, Try.ntmps92
    go_wp2_with (go_at_call 94; refine G0.out.mono ?_; rintro en w1 ⟨b1, n1, n2, A1, hpm, ht, rfl⟩)
    go_ret
    exact ⟨rfl, b1, n1, n2, _, hpm, ht⟩
set_option maxRecDepth 100000 in
set_option maxHeartbeats 1600000 in
theorem pool_Write (b : List (Option Nat)) (gd g m1 m2 p e h t : Nat) (A : List Nat) (P : Pl) (x : Int) (hx : in64' x) (s : ByteArray) (w : World) (H : PM w b gd g m1 m2 p e h t A P) (ok : P.ok) (fit : Fit P.L.D 1) :
    Calls Try.prog 42 #[.pointer (some ⟨p, 0, none⟩), .int .i64 x, .string s] w (RoomPost (allB b g m1 m2 p e h t A) w gd g p e h t (P.write x s).1 (P.write x s).2) := by
  have PT := Lib.hid (pool_put b gd g m1 m2 p e h t A P x hx s w H ok fit)
  have HP := Lib.hid H
  by_cases hx0 : x = 0
  · have HE : Hid (P.write x s = (P, 1)) := if_pos (.inl hx0)
    rw [HE.out]
    subst hx0
    clear H ok fit
    go_enter Try.func42, Try.ntmps42
    go_wp2_with fail
    go_ret
    exact ⟨rfl, b, m1, m2, A, HP.out, Turn.refl _ _⟩
  · have e0 : (x == 0) = false := beq_eq_false_iff_ne.2 hx0
    by_cases hs : s.size = 1024
    · have HE : Hid (P.write x s = P.put x s) := if_neg (fun h => h.elim hx0 fun h2 => h2 hs)
      rw [HE.out]
      obtain ⟨Q, hQ⟩ : ∃ Q, P.put x s = Q := ⟨_, rfl⟩
      rw [hQ] at PT ⊢
      have z : (s.size : Int) = 1024 := by omega
      clear H ok fit hx0 hQ hs
      go_enter Try.func42, Try.ntmps42
      go_wp2_with (go_at_call 92; refine PT.out.mono ?_; rintro en w1 ⟨rfl, b1, n1, n2, A1, hpm, ht⟩)
      go_ret
      exact ⟨rfl, b1, n1, n2, A1, hpm, ht⟩
    · have HE : Hid (P.write x s = (P, 1)) := if_pos (.inr hs)
      rw [HE.out]
      have z : ((s.size : Int) == 1024) = false := by rw [beq_eq_false_iff_ne]; omega
      have z2 : ((s.size : Int) != 1024) = true := by rw [bne_iff_ne]; omega
      clear H ok fit hx0 hs
      go_enter Try.func42, Try.ntmps42
      go_wp2_with fail
      go_ret
      exact ⟨rfl, b, m1, m2, A, HP.out, Turn.refl _ _⟩
theorem pool_Pages (b : List (Option Nat)) (gd g m1 m2 p e h t : Nat) (A : List Nat) (P : Pl) (w : World) (H : PM w b gd g m1 m2 p e h t A P) : Calls Try.prog 48 #[.pointer (some ⟨p, 0, none⟩)] w fun e w' => e = .returned (.int .i64 P.pages) ∧ w = w' := by
  have x4 : w.cell? ⟨p, 4, none⟩ = some (.int .i64 P.pages) := H.has.cell 4
  clear H
  go_enter Try.func48, Try.ntmps48
  go_wp2_with fail
  go_ret
  exact ⟨rfl, rfl⟩

end Go.Proofs.Ytjihboddejaelaa
