/-
  The pool of the law PoolKept in memory, beside the sheets that tell what it is to hold; its operations.
-/
import Derived.Test.YtjihboddejaelaaPk10
import Derived.Test.YtjihboddejaelaaPoolEq
namespace Go.Proofs.Ytjihboddejaelaa
set_option linter.unusedVariables false
set_option linter.unusedSimpArgs false
open Go.RowKit
open Go.BigFrame
open Go.Maps
set_option linter.unusedVariables false
set_option linter.unusedSimpArgs false

/-- where a pool lies -/
structure Bx where
  b : List (Option Nat)
  g : Nat
  m1 : Nat
  m2 : Nat
  e : Nat
  h : Nat
  t : Nat
  A : List Nat
def Bx.all (x : Bx) (p : Nat) : List (Option Nat) := allB x.b x.g x.m1 x.m2 p x.e x.h x.t x.A
def PX (w : World) (gd p : Nat) (x : Bx) (P : Pl) : Prop := PM w x.b gd x.g x.m1 x.m2 p x.e x.h x.t x.A P
def XPost (B : List (Option Nat)) (w : World) (gd p : Nat) (P : Pl) (v : Value) (en : Ending) (w' : World) : Prop := en = .returned v ∧ ∃ x' : Bx, PX w' gd p x' P ∧ Turn B (x'.all p) w w'
/-- pages and texts in a cell of their own -/
structure Sheet (w : World) (z : List (Option Nat)) (lo x m c q : Nat) (T : Nat → Option ByteArray) : Prop where
  has : Has w x 74 #[.int .i64 q, .map (some m)]
  map : MS w m c (lift T)
  offx : some x ∉ z
  offm : some m ∉ z
  low : lo ≤ x
  lowm : lo ≤ m
theorem lift_set (T : Nat → Option ByteArray) (n : Nat) (t : ByteArray) : (fun y : Int => if y = (n : Int) then some t else lift T y) = lift (setT T n t) := lift_with T n t
theorem lift_cut (T : Nat → Option ByteArray) (n : Nat) : (fun y : Int => if y = (n : Int) then none else lift T y) = lift (cutT T n) := by
  funext y
  unfold lift cutT
  by_cases hy : y = (n : Int)
  · subst hy
    rw [if_pos rfl, if_pos (by omega), Int.toNat_natCast, if_pos rfl]
  · rw [if_neg hy]
    by_cases h0 : 0 ≤ y
    · rw [if_pos h0, if_pos h0, if_neg (by omega)]
    · rw [if_neg h0, if_neg h0]
theorem MS.ne {w : World} {m c y : Nat} {f : Int → Option ByteArray} {t : TypeId} {cs : Array Value} (h : MS w m c f) (hy : Has w y t cs) : m ≠ y := fun e => by
  obtain ⟨D, ⟨es, cl, h1, h2⟩, h3⟩ := h
  rw [e] at h1
  have h4 : w.heap[y]? = some (.cells cs t) := hy
  rw [h4] at h1
  cases h1
def two (w : World) (y : Nat) (u v : Value) : World := (w.setCell ⟨y, 0, none⟩ u).setCell ⟨y, 1, none⟩ v
theorem two_turn (w : World) (y : Nat) (u v : Value) : Turn [some y] [some y] w (two w y u v) := (Turn.set y [] 0 u w).trans (Turn.set y [] 1 v _)
section
variable {w w' : World} {z z' : List (Option Nat)} {lo x m c q : Nat} {T : Nat → Option ByteArray}
theorem Sheet.turn (h : Sheet w z lo x m c q T) (ht : Turn z z' w w') : Sheet w' z' lo x m c q T :=
  ⟨h.has.turn ht h.offx, h.map.turn ht h.offm, ht.not h.has.lt h.offx, ht.not h.map.lt h.offm, h.low, h.lowm⟩
theorem Sheet.below (h : Sheet w z lo x m c q T) (hb : Below w.heap.size w w') : Sheet w' z lo x m c q T :=
  ⟨h.has.belowS hb, h.map.below hb, h.offx, h.offm, h.low, h.lowm⟩
theorem Sheet.mono (h : Sheet w z lo x m c q T) {d : Nat} (hd : c ≤ d) : Sheet w z lo x m d q T := ⟨h.has, h.map.mono hd, h.offx, h.offm, h.low, h.lowm⟩
theorem Sheet.far (h : Sheet w z lo x m c q T) {y : Nat} (hy : x ≠ y) {t : TypeId} {cs : Array Value} (hh : Has w y t cs) (u v : Value) : Sheet (two w y u v) z lo x m c q T :=
  ⟨h.has.turn (two_turn w y u v) (by simpa using hy), h.map.turn (two_turn w y u v) (by simpa using h.map.ne hh), h.offx, h.offm, h.low, h.lowm⟩
/-- another sheet is written over it -/
theorem Sheet.store (h : Sheet w z lo x m c q T) {m' q' : Nat} {T' : Nat → Option ByteArray} (hm : MS w m' c (lift T')) (ho : some m' ∉ z) (hl : lo ≤ m') : Sheet (two w x (.int .i64 q') (.map (some m'))) z lo x m' c q' T' :=
  ⟨h.has.set2, hm.turn (two_turn w x _ _) (by simpa using hm.ne h.has), h.offx, ho, h.low, hl⟩
end
/-- the pool P and three sheets: what was committed, what is there now, what may have been committed -/
structure KP (w0 w : World) (gd p : Nat) (x : Bx) (P : Pl) (xk xn xm mk mn mm c qk qn qm : Nat) (TK TN TM : Nat → Option ByteArray) : Prop where
  pm : PX w gd p x P
  low : ∀ k, some k ∈ x.all p → w0.heap.size ≤ k
  bel : Below w0.heap.size w0 w
  k : Sheet w (x.all p) w0.heap.size xk mk c qk TK
  n : Sheet w (x.all p) w0.heap.size xn mn c qn TN
  m : Sheet w (x.all p) w0.heap.size xm mm c qm TM
  kn : xk ≠ xn
  km : xk ≠ xm
  nm : xn ≠ xm
section
variable {w0 w w' : World} {gd p xk xn xm mk mn mm c qk qn qm : Nat} {x x' : Bx} {P P' : Pl} {TK TN TM : Nat → Option ByteArray}
theorem KP.below (h : KP w0 w gd p x P xk xn xm mk mn mm c qk qn qm TK TN TM) (hb : Below w.heap.size w w') : KP w0 w' gd p x P xk xn xm mk mn mm c qk qn qm TK TN TM :=
  ⟨PM.below h.pm hb, h.low, bel_step h.bel hb h.bel.size, h.k.below hb, h.n.below hb, h.m.below hb, h.kn, h.km, h.nm⟩
theorem KP.turn (h : KP w0 w gd p x P xk xn xm mk mn mm c qk qn qm TK TN TM) (hp : PX w' gd p x' P') (ht : Turn (x.all p) (x'.all p) w w') : KP w0 w' gd p x' P' xk xn xm mk mn mm c qk qn qm TK TN TM :=
  ⟨hp, ht.low h.low h.bel.size, ht.bel h.bel h.low h.bel.size, h.k.turn ht, h.n.turn ht, h.m.turn ht, h.kn, h.km, h.nm⟩
theorem KP.mono (h : KP w0 w gd p x P xk xn xm mk mn mm c qk qn qm TK TN TM) {d : Nat} (hd : c ≤ d) : KP w0 w gd p x P xk xn xm mk mn mm d qk qn qm TK TN TM :=
  ⟨h.pm, h.low, h.bel, h.k.mono hd, h.n.mono hd, h.m.mono hd, h.kn, h.km, h.nm⟩
theorem KP.far (h : KP w0 w gd p x P xk xn xm mk mn mm c qk qn qm TK TN TM) {y : Nat} (hy : some y ∉ x.all p) (hl : w0.heap.size ≤ y) (u v : Value) : PX (two w y u v) gd p x P ∧ Below w0.heap.size w0 (two w y u v) :=
  ⟨PM.far h.pm (two_turn w y u v) (fun k hk => by rw [List.mem_singleton] at hk; cases hk; exact hy), (two_turn w y u v).bel h.bel (fun k hk => by rw [List.mem_singleton] at hk; cases hk; exact hl) h.bel.size⟩
theorem KP.storeN (h : KP w0 w gd p x P xk xn xm mk mn mm c qk qn qm TK TN TM) {m' q' : Nat} {T' : Nat → Option ByteArray} (hm : MS w m' c (lift T')) (ho : some m' ∉ x.all p) (hl : w0.heap.size ≤ m') : KP w0 (two w xn (.int .i64 q') (.map (some m'))) gd p x P xk xn xm mk m' mm c qk q' qm TK T' TM :=
  ⟨(h.far h.n.offx h.n.low _ _).1, h.low, (h.far h.n.offx h.n.low _ _).2, h.k.far h.kn h.n.has _ _, h.n.store hm ho hl, h.m.far h.nm.symm h.n.has _ _, h.kn, h.km, h.nm⟩
theorem KP.storeK (h : KP w0 w gd p x P xk xn xm mk mn mm c qk qn qm TK TN TM) {m' q' : Nat} {T' : Nat → Option ByteArray} (hm : MS w m' c (lift T')) (ho : some m' ∉ x.all p) (hl : w0.heap.size ≤ m') : KP w0 (two w xk (.int .i64 q') (.map (some m'))) gd p x P xk xn xm m' mn mm c q' qn qm T' TN TM :=
  ⟨(h.far h.k.offx h.k.low _ _).1, h.low, (h.far h.k.offx h.k.low _ _).2, h.k.store hm ho hl, h.n.far h.kn.symm h.k.has _ _, h.m.far h.km.symm h.k.has _ _, h.kn, h.km, h.nm⟩
theorem KP.storeM (h : KP w0 w gd p x P xk xn xm mk mn mm c qk qn qm TK TN TM) {m' q' : Nat} {T' : Nat → Option ByteArray} (hm : MS w m' c (lift T')) (ho : some m' ∉ x.all p) (hl : w0.heap.size ≤ m') : KP w0 (two w xm (.int .i64 q') (.map (some m'))) gd p x P xk xn xm mk mn m' c qk qn q' TK TN T' :=
  ⟨(h.far h.m.offx h.m.low _ _).1, h.low, (h.far h.m.offx h.m.low _ _).2, h.k.far h.km h.m.has _ _, h.n.far h.nm h.m.has _ _, h.m.store hm ho hl, h.kn, h.km, h.nm⟩
/-- the texts alone are written anew -/
theorem KP.storeN1 (h : KP w0 w gd p x P xk xn xm mk mn mm c qk qn qm TK TN TM) {m' : Nat} {T' : Nat → Option ByteArray} (hm : MS w m' c (lift T')) (ho : some m' ∉ x.all p) (hl : w0.heap.size ≤ m') : KP w0 (w.setCell ⟨xn, 1, none⟩ (.map (some m'))) gd p x P xk xn xm mk m' mm c qk qn qm TK T' TM := by
  have ht : Turn [some xn] [some xn] w (w.setCell ⟨xn, 1, none⟩ (.map (some m'))) := Turn.set xn [] 1 _ w
  have e1 : ∀ k, some k ∈ [some xn] → k = xn := fun k hk => by rw [List.mem_singleton] at hk; cases hk; rfl
  refine ⟨PM.far h.pm ht (fun k hk => by rw [e1 k hk]; exact h.n.offx), h.low, ht.bel h.bel (fun k hk => by rw [e1 k hk]; exact h.n.low) h.bel.size, ?_, ?_, ?_, h.kn, h.km, h.nm⟩
  · exact ⟨h.k.has.turn ht (by simpa using h.kn), h.k.map.turn ht (by simpa using h.k.map.ne h.n.has), h.k.offx, h.k.offm, h.k.low, h.k.lowm⟩
  · exact ⟨h.n.has.set 1 _, hm.turn ht (by simpa using hm.ne h.n.has), h.n.offx, ho, h.n.low, hl⟩
  · exact ⟨h.m.has.turn ht (by simpa using h.nm.symm), h.m.map.turn ht (by simpa using h.m.map.ne h.n.has), h.m.offx, h.m.offm, h.m.low, h.m.lowm⟩
def KPPost (z : List (Option Nat)) (w w0 : World) (gd p : Nat) (P : Pl) (xk xn xm mk mn mm c qk qn qm : Nat) (TK TN TM : Nat → Option ByteArray) (v : Value) (en : Ending) (w' : World) : Prop :=
  en = .returned v ∧ ∃ x' : Bx, KP w0 w' gd p x' P xk xn xm mk mn mm c qk qn qm TK TN TM ∧ Turn z (x'.all p) w w'
theorem KP.post (h : KP w0 w gd p x P xk xn xm mk mn mm c qk qn qm TK TN TM) {v : Value} {en : Ending} (hp : XPost (x.all p) w gd p P' v en w') : KPPost (x.all p) w w0 gd p P' xk xn xm mk mn mm c qk qn qm TK TN TM v en w' := by
  obtain ⟨he, x', h1, h2⟩ := hp
  exact ⟨he, x', h.turn h1 h2, h2⟩
theorem kp_Alloc (h : KP w0 w gd p x P xk xn xm mk mn mm c qk qn qm TK TN TM) (ok : P.ok) (fit : Fit P.L.D 4) :
    Calls Try.prog 41 #[.pointer (some ⟨p, 0, none⟩)] w (KPPost (x.all p) w w0 gd p P.alloc.1 xk xn xm mk mn mm c qk qn qm TK TN TM (.tuple #[.int .i64 P.allocT, .int .i64 P.alloc.2])) :=
  (pool_Alloc x.b gd x.g x.m1 x.m2 p x.e x.h x.t x.A P w h.pm ok fit).mono fun en w' ⟨he, b', n1, n2, A', h1, h2⟩ => h.post ⟨he, ⟨b', x.g, n1, n2, x.e, x.h, x.t, A'⟩, h1, h2⟩
theorem kp_Write (h : KP w0 w gd p x P xk xn xm mk mn mm c qk qn qm TK TN TM) (ok : P.ok) (fit : Fit P.L.D 1) (y : Nat) (hy : y ≤ 1000000) (s : ByteArray) :
    Calls Try.prog 42 #[.pointer (some ⟨p, 0, none⟩), .int .i64 y, .string s] w (KPPost (x.all p) w w0 gd p (P.write y s).1 xk xn xm mk mn mm c qk qn qm TK TN TM (.int .i64 (P.write y s).2)) :=
  (pool_Write x.b gd x.g x.m1 x.m2 p x.e x.h x.t x.A P y ⟨by omega, by omega⟩ s w h.pm ok fit).mono fun en w' ⟨he, b', n1, n2, A', h1, h2⟩ => h.post ⟨he, ⟨b', x.g, n1, n2, x.e, x.h, x.t, A'⟩, h1, h2⟩
theorem kp_Free (h : KP w0 w gd p x P xk xn xm mk mn mm c qk qn qm TK TN TM) (ok : P.ok) (fit : Fit P.L.D 3) (y : Nat) (hy : y ≤ 1000000) :
    Calls Try.prog 44 #[.pointer (some ⟨p, 0, none⟩), .int .i64 y] w (KPPost (x.all p) w w0 gd p (P.freeP y).1 xk xn xm mk mn mm c qk qn qm TK TN TM (.int .i64 (P.freeP y).2)) :=
  (pool_Free x.b gd x.g x.m1 x.m2 p x.e x.h x.t x.A P y ⟨by omega, by omega⟩ w h.pm ok fit).mono fun en w' ⟨he, b', n1, n2, A', h1, h2⟩ => h.post ⟨he, ⟨b', x.g, n1, n2, x.e, x.h, x.t, A'⟩, h1, h2⟩
theorem kp_Commit (h : KP w0 w gd p x P xk xn xm mk mn mm c qk qn qm TK TN TM) (ok : P.ok) (fit : Fit P.L.D 70300) (hdn : P.flushed.2 = 0 → P.flushed.1.L.D.down = false) :
    Calls Try.prog 45 #[.pointer (some ⟨p, 0, none⟩)] w (KPPost (x.all p) w w0 gd p P.commit.1 xk xn xm mk mn mm c qk qn qm TK TN TM (.int .i64 P.commit.2)) :=
  (pool_Commit x.b gd x.g x.m1 x.m2 p x.e x.h x.t x.A P w h.pm ok fit hdn).mono fun en w' ⟨he, b', n1, n2, t', A', h1, h2⟩ => h.post ⟨he, ⟨b', x.g, n1, n2, x.e, x.h, t', A'⟩, h1, h2⟩
theorem kp_Rollback (h : KP w0 w gd p x P xk xn xm mk mn mm c qk qn qm TK TN TM) (ok : P.ok) (ok2 : P.rolled.ok) (fit : Fit P.L.back.D 1) :
    Calls Try.prog 46 #[.pointer (some ⟨p, 0, none⟩)] w (KPPost (x.all p) w w0 gd p P.rollback.1 xk xn xm mk mn mm c qk qn qm TK TN TM (.int .i64 P.rollback.2)) :=
  (pool_Rollback x.b gd x.g x.m1 x.m2 p x.e x.h x.t x.A P w h.pm ok ok2 fit).mono fun en w' ⟨he, b', n1, n2, t', A', h1, h2⟩ => h.post ⟨he, ⟨b', x.g, n1, n2, x.e, x.h, t', A'⟩, h1, h2⟩
end

end Go.Proofs.Ytjihboddejaelaa

/-
  PoolKept in plain Lean: the first pool, what each act makes of it, what is told at the end.
-/
namespace Go.Proofs.Ytjihboddejaelaa
set_option linter.unusedVariables false
set_option linter.unusedSimpArgs false
open Go.RowKit
set_option linter.unusedVariables false
set_option linter.unusedSimpArgs false

theorem calm_commitE {L : Lg} (h : L.D.calm) (hlen : L.fs.length ≤ 60000) {n p : Nat} (hn : n ≤ 65536) (hp : 1 ≤ p ∧ p ≤ 65536) {t : ByteArray} (ht : t.size = 1024) (hs : L.slot < 2) : L.commitE n t p = 0 ∧ (L.commit n t p).D.calm := by
  obtain ⟨e1, e2⟩ := append_eqQ hlen hn ht
  have hA : L.appendE n t = 0 := e1.trans h.turnE
  have hc : (L.append n t).D.calm := by rw [e2]; exact h.change _
  have hsl : (L.append n t).slot < 2 := by rw [e2]; exact hs
  have cE : L.commitE n t p = if L.appendE n t = 0 then (if (L.append n t).D.stops then 2 else ({ L.append n t with D := (L.append n t).D.sync 1 } : Lg).tellE (L.append n t).fs.length p) else L.appendE n t := (if_pos (by omega)).trans (by rw [Int.toNat_natCast])
  have cT : L.commit n t p = if L.appendE n t = 0 then (if (L.append n t).D.stops then { L.append n t with D := (L.append n t).D.sync 1 } else ({ L.append n t with D := (L.append n t).D.sync 1 } : Lg).tell (L.append n t).fs.length p) else L.append n t := (if_pos (by omega)).trans (by rw [Int.toNat_natCast])
  rw [cE, cT, if_pos hA, if_pos hA, if_neg hc.go, if_neg hc.go]
  have hy := hc.sync 1
  generalize L.append n t = A at *
  have ht2 : (({ A with D := A.D.sync 1 } : Lg).tellD A.fs.length p).calm := hy.write _ _ _
  refine ⟨(if_neg (show ¬ ({ A with D := A.D.sync 1 } : Lg).D.stops from hy.go)).trans ht2.turnE, ?_⟩
  have e : ({ A with D := A.D.sync 1 } : Lg).tell A.fs.length p = { ({ A with D := A.D.sync 1 } : Lg) with D := (({ A with D := A.D.sync 1 } : Lg).tellD A.fs.length p).sync 1, slot := 1 - A.slot, number := A.number % 3 + 1, kept := A.fs.length, pages := p } := (if_neg (show ¬ ({ A with D := A.D.sync 1 } : Lg).D.stops from hy.go)).trans (if_neg ht2.go)
  rw [e]
  exact ht2.sync 1
def noText : Nat → Option ByteArray := fun _ => none
def firstB : Bk := ⟨1, fun _ => metaS⟩
theorem metaS_size : metaS.size = 1024 := meta_len (l := 0) (by omega)
theorem good_first : Good firstB noText 0 := ⟨Nat.le_refl _, fun n s h => (by cases h), rfl, [], rfl, List.nodup_nil, fun x hx => by cases hx⟩
/-- the pool that is opened over a new disk -/
theorem first_pool : (Lg.opened Dk.new).ok ∧ ((Lg.opened Dk.new).pages = 0 → (Lg.opened Dk.new).commitE 0 metaS 1 = 0) ∧
    ∃ P, Pl.opened Dk.new 8 = (P, 0) ∧ PInv P firstB firstB ∧ P.free = 0 ∧ wt P ≤ 1 ∧ P.L.D.calm ∧ Fit P.L.D 29000000 := by
  have hi := inv_start 0
  have hc := opened_calm (D := Dk.new) ⟨rfl, rfl⟩
  have hst := start_eq 0
  have h0 : Lg.opened Dk.new = Lg.opened (plainD [] [] (-1) 0) := rfl
  obtain ⟨L, hL⟩ : ∃ L, Lg.opened (plainD [] [] (-1) 0) = L := ⟨_, rfl⟩
  have hfit : Fit ((Lg.opened Dk.new).commit 0 metaS 1).D 29000000 := commit_fit (opened_fit (new_fit.less (by omega))) _ _ _
  unfold Pl.opened Pl.begun
  rw [h0] at hc hfit ⊢
  rw [hL] at hi hc hst hfit ⊢
  have f0 : L.fs = [] := by rw [hst]
  have k0 : L.kept = 0 := by rw [hst]
  have p0 : L.pages = 0 := by rw [hst]
  clear hst h0 hL
  have hq : InvQ L ⟨0, fun _ => metaS⟩ := ⟨hi.safe, p0, fun n hn => absurd hn (Nat.not_lt_zero _)⟩
  have hF : HoldsQ firstB (L.fs ++ [⟨0, metaS⟩]) 1 := ⟨rfl, fun n hn => by
    have : n = 0 := by have : n < 1 := hn; omega
    subst this; exact lies_snoc⟩
  obtain ⟨c1, c2⟩ := commit_q hq (by rw [f0]; exact Nat.zero_le _) (n := 0) (p := 1) (by omega) ⟨by omega, by omega⟩ metaS_size hF
  obtain ⟨z1, z2⟩ := calm_commitE hc (by rw [f0]; exact Nat.zero_le _) (n := 0) (p := 1) (by omega) ⟨by omega, by omega⟩ metaS_size hi.safe.ok.slot
  rw [show ((0 : Nat) : Int) = 0 from rfl, show ((1 : Nat) : Int) = 1 from rfl] at c1 z1 z2
  obtain ⟨a1, a2, a3⟩ := c1 z1
  rw [if_pos p0]
  refine ⟨hi.safe.ok, fun _ => z1, ?_⟩
  generalize L.commit 0 metaS 1 = M at *
  have hl : ∀ n, n < firstB.q → LiesF M.fs n (firstB.K n) := by rw [a2]; exact hF.2
  obtain ⟨e1, e2⟩ := forgot_text a1.safe.ok a3 good_first (by show 1 ≤ 60000; omega) hl 8
  refine ⟨_, e1, fresh_inv a1 hl ⟨by omega, by omega⟩ (by show 1 ≤ 60000; omega) (by omega), rfl, ?_, z2, hfit⟩
  show M.fs.length + 0 ≤ 1
  rw [a2, f0]; exact Nat.le_refl _
theorem PInv.onDisk {P : Pl} {B N : Bk} (h : PInv P B N) {n : Int} (hn : n ≤ 9223372036854775807) : PInv { P with L := { P.L with D := P.L.D.fail n } } B N := by
  have hs : Safe ({ P.L with D := P.L.D.fail n } : Lg) := safe_disk h.log.safe (Dk.fail_ok h.log.safe.ok.disk hn) rfl rfl rfl
  exact ⟨⟨hs.ok, h.ok.names, h.ok.pages, h.ok.size, h.ok.most, h.ok.full, h.ok.few, h.ok.link, h.ok.turnd, h.ok.turns⟩, ⟨hs, h.log.kept⟩, h.pages, h.most, h.ring, h.lies, h.same, h.le⟩

/-- between two acts -/
structure St (P : Pl) (B N : Bk) (TK TN : Nat → Option ByteArray) (fB W q : Nat) : Prop where
  inv : PInv P B N
  gB : Good B TK fB
  gN : Good N TN P.free
  w : wt P ≤ W
  q : N.q ≤ q
/-- what a crash leaves: what was committed, or what the sheet of pages q and texts T tells -/
def TotP (D : Dk) (B : Bk) (q : Nat) (T : Nat → Option ByteArray) : Prop :=
  ∀ keep, TellsT (D.crash keep).l1 (HoldsQ B) ∨ ∃ (M : Bk) (fM : Nat), M.q = q ∧ Good M T fM ∧ M.q ≤ 60000 ∧ TellsT (D.crash keep).l1 (HoldsQ M)
/-- a pool behind an act that failed -/
structure Bad (P : Pl) (B : Bk) (TK : Nat → Option ByteArray) (qm : Nat) (TM : Nat → Option ByteArray) : Prop where
  gB : ∃ fB, Good B TK fB
  q : B.q ≤ 60000
  tot : TotP P.L.D B qm TM
section
variable {P : Pl} {B N : Bk} {TK TN TM : Nat → Option ByteArray} {fB W q qm : Nat}
theorem LostQ.tot {D : Dk} (h : LostQ D B B) : D.down = true ∧ TotP D B qm TM := ⟨h.1, fun keep => .inl ((h.2 keep).elim id id)⟩
theorem LostQ.totN {D : Dk} {f : Nat} (h : LostQ D B N) (g : Good N TN f) (hq : N.q ≤ 60000) : D.down = true ∧ TotP D B N.q TN :=
  ⟨h.1, fun keep => (h.2 keep).imp id fun h2 => ⟨N, f, rfl, g, hq, h2⟩⟩
theorem St.bad (s : St P B N TK TN fB W q) (hq : q ≤ 60000) (qm : Nat) (TM : Nat → Option ByteArray) : Bad P B TK qm TM :=
  ⟨⟨fB, s.gB⟩, Nat.le_trans s.inv.le (Nat.le_trans s.q hq), fun keep => .inl (safe_tellsT s.inv.log.safe s.inv.log.kept keep)⟩
theorem St.more (s : St P B N TK TN fB W q) {V r : Nat} (hV : W ≤ V) (hr : q ≤ r) : St P B N TK TN fB V r := ⟨s.inv, s.gB, s.gN, Nat.le_trans s.w hV, Nat.le_trans s.q hr⟩
theorem St.lost {P' : Pl} (s : St P B N TK TN fB W q) (hq : q ≤ 60000) (h : LostQ P'.L.D B B) (qm : Nat) (TM : Nat → Option ByteArray) : P'.L.D.down = true ∧ Bad P' B TK qm TM :=
  ⟨h.1, ⟨fB, s.gB⟩, Nat.le_trans s.inv.le (Nat.le_trans s.q hq), (h.tot).2⟩
/-- behind Alloc, ahead of the Write of its page -/
structure Midw (P : Pl) (B N : Bk) (TK TN : Nat → Option ByteArray) (fB W q n : Nat) : Prop where
  inv : PInv P B N
  gB : Good B TK fB
  w : wt P ≤ W
  q : N.q ≤ q
  n0 : 0 < n
  n1 : n < N.q
  good : ∀ s, Good (N.put n s) (setT TN n s) P.free
theorem st_alloc (s : St P B N TK TN fB W q) (hW : W ≤ 800) (hq : q ≤ 50000) :
    (P.alloc.2 = 0 → ∃ N' n, P.allocT = n ∧ n ≤ q ∧ N'.q = max N.q (n + 1) ∧ Midw P.alloc.1 B N' TK TN fB (W + 2) (q + 1) n) ∧ (P.alloc.2 ≠ 0 → ∀ qm TM, P.alloc.1.L.D.down = true ∧ Bad P.alloc.1 B TK qm TM) := by
  obtain ⟨a1, a2⟩ := alloc_inv s.inv s.gN (Nat.le_trans s.w (by omega)) (Nat.le_trans s.q (by omega))
  have sw := s.w
  have sq := s.q
  refine ⟨fun hE => ?_, fun hE qm TM => s.lost (by omega) (a2 hE) qm TM⟩
  obtain ⟨N', b1, b2, b3, b4, b5, b6⟩ := a1 hE
  have hn : P.allocN ≤ q := by
    have hp := s.inv.pages
    unfold Pl.allocN
    split
    · omega
    · obtain ⟨fl, f1, _, f3⟩ := s.gN.fl
      have := chain_le fl P.free f1 (fun y hy => (f3 y hy).2.1)
      omega
  exact ⟨N', P.allocN, if_pos hE, hn, b3, b1, s.gB, by omega, by omega, b4, b5, b6⟩
theorem half_write {n : Nat} (s : Midw P B N TK TN fB W q n) (hW : W ≤ 900) (hq : q ≤ 50000) {t : ByteArray} (ht : t.size = 1024) :
    ((P.write n t).2 = 0 → St (P.write n t).1 B (N.put n t) TK (setT TN n t) fB (W + 1) q) ∧ ((P.write n t).2 ≠ 0 → ∀ qm TM, (P.write n t).1.L.D.down = true ∧ Bad (P.write n t).1 B TK qm TM) := by
  obtain ⟨a1, a2⟩ := write_inv s.inv s.good (Nat.le_trans s.w (by omega)) s.n1 s.n0 ht
  have sw := s.w
  have sq := s.q
  refine ⟨fun hE => ?_, fun hE qm TM => ⟨(a2 hE).1, ⟨fB, s.gB⟩, Nat.le_trans s.inv.le (by omega), ((a2 hE).tot).2⟩⟩
  obtain ⟨b1, b2, b3⟩ := a1 hE
  exact ⟨b1, s.gB, b3, by omega, sq⟩
theorem st_write (s : St P B N TK TN fB W q) (hW : W ≤ 900) (hq : q ≤ 50000) {n : Nat} {u : ByteArray} (hn : TN n = some u) {t : ByteArray} (ht : t.size = 1024) :
    n ≤ q ∧ ((P.write n t).2 = 0 → St (P.write n t).1 B (N.put n t) TK (setT TN n t) fB (W + 1) q) ∧ ((P.write n t).2 ≠ 0 → ∀ qm TM, (P.write n t).1.L.D.down = true ∧ Bad (P.write n t).1 B TK qm TM) := by
  obtain ⟨x1, x2, x3⟩ := s.gN.text n u hn
  have sq := s.q
  exact ⟨by omega, half_write ⟨s.inv, s.gB, s.w, s.q, x1, x2, fun t => good_write s.gN hn t⟩ hW hq ht⟩
theorem st_free (s : St P B N TK TN fB W q) (hW : W ≤ 900) (hq : q ≤ 50000) {n : Nat} {u : ByteArray} (hn : TN n = some u) :
    n ≤ q ∧ ((P.freeP n).2 = 0 → ∃ N', N'.q = N.q ∧ St (P.freeP n).1 B N' TK (cutT TN n) fB (W + 2) q) ∧ ((P.freeP n).2 ≠ 0 → ∀ qm TM, (P.freeP n).1.L.D.down = true ∧ Bad (P.freeP n).1 B TK qm TM) := by
  obtain ⟨x1, x2, x3⟩ := s.gN.text n u hn
  obtain ⟨a1, a2⟩ := free_inv s.inv s.gN (Nat.le_trans s.w (by omega)) (Nat.le_trans s.q (by omega)) hn
  have sw := s.w
  have sq := s.q
  refine ⟨by omega, fun hE => ?_, fun hE qm TM => s.lost (by omega) (a2 hE) qm TM⟩
  obtain ⟨N', b1, b2, b3, b4⟩ := a1 hE
  exact ⟨N', b3, b1, s.gB, b4, by omega, by omega⟩
theorem st_commit (s : St P B N TK TN fB W q) (hW : W ≤ 900) (hq : q ≤ 50000) :
    (P.flushed.2 = 0 → P.flushed.1.L.D.down = false) ∧ (P.commit.2 = 0 → St P.commit.1 N N TN TN P.free (W + 1) q) ∧ (P.commit.2 ≠ 0 → P.commit.1.L.D.down = true ∧ TotP P.commit.1.L.D B N.q TN) := by
  have sw := s.w
  have sq := s.q
  obtain ⟨f1, _⟩ := flushed_inv s.inv (by omega) s.gN.pos
  obtain ⟨a1, a2⟩ := commit_inv2 s.inv (by omega) s.gN.pos
  refine ⟨fun h => (f1 h).2.2.2.2, fun hE => ?_, fun hE => (a2 hE).totN s.gN (by omega)⟩
  obtain ⟨b1, b2, b3⟩ := a1 hE
  exact ⟨b1, s.gN, by rw [b3]; exact s.gN, by omega, sq⟩
theorem st_back (s : St P B N TK TN fB W q) (hW : W ≤ 900) (hq : q ≤ 50000) :
    P.rolled.ok ∧ (P.rollback.2 = 0 → St P.rollback.1 B B TK TK fB W q) ∧ (P.rollback.2 ≠ 0 → ∀ qm TM, P.rollback.1.L.D.down = true ∧ Bad P.rollback.1 B TK qm TM) := by
  have sw := s.w
  have sq := s.q
  have sl := s.inv.le
  obtain ⟨a1, a2⟩ := rollback_inv s.inv s.gB (by omega) (by omega)
  refine ⟨(rolled_inv s.inv).1.ok, fun hE => ?_, fun hE qm TM => s.lost (P' := P.rollback.1) (by omega) (a2 hE) qm TM⟩
  obtain ⟨b1, b2, b3⟩ := a1 hE
  exact ⟨b1, s.gB, by rw [b3]; exact s.gB, by omega, by omega⟩
/-- what is read of a pool between two acts -/
theorem st_reads (s : St P B N TK TN fB W q) (hW : W ≤ 900) :
    ∀ (R : Pl) (x : Nat), St R B N TK TN fB W q → x < N.q → R.ok ∧ St (R.get x).1 B N TK TN fB W q ∧ ((R.get x).2 = 0 → R.text x = N.K x) ∧ ((R.get x).2 ≠ 0 → (R.get x).1.L.D.down = true) := fun R x r hx => by
  have rw' := r.w
  obtain ⟨g1, g2, g3⟩ := get_inv r.inv (by omega) hx
  exact ⟨r.inv.ok, ⟨g1, r.gB, by rw [(get_same x).2.2.1]; exact r.gN, by omega, r.q⟩, fun hE => (get_text r.inv (by omega) hx hE).2, g3⟩
theorem st_right (s : St P B N TK TN fB W q) : ¬ Misread TN N.K N.q := fun ⟨n, t, hn, h1, h2⟩ => h2 (s.gN.text n t h1).2.2
theorem view_reads : ∀ (R : Pl) (x : Nat), PView R N → x < N.q → R.ok ∧ PView (R.get x).1 N ∧ ((R.get x).2 = 0 → R.text x = N.K x) ∧ ((R.get x).2 ≠ 0 → (R.get x).1.L.D.down = true) := fun R x r hx => by
  obtain ⟨v1, v2, v3⟩ := view_get r hx
  exact ⟨r.ok, v1, fun _ => v3, fun h => absurd v2 h⟩
end

section
variable {P : Pl} {k : Nat}
theorem write_fit (h : Fit P.L.D (k + 1)) (x : Int) (s : ByteArray) : Fit (P.write x s).1.L.D k := by
  unfold Pl.write
  split
  · exact h.less (by omega)
  · exact put_fit h x s
theorem alloc_fit (h : Fit P.L.D (k + 4)) : Fit P.alloc.1.L.D k := by
  unfold Pl.alloc
  split
  · split
    · exact h.less (by omega)
    · unfold Pl.grow
      have h1 := room_fit (k := k) (h.less (by omega))
      split
      · exact h1
      · exact h1
  · unfold Pl.reuse
    have h1 := get_fit (k := k + 3) h P.free
    split
    · split
      · exact h1.less (by omega)
      · rename_i pg _
        have h2 := setFree_fit (k := k + 1) h1 pg.2.1
        split
        · exact put_fit h2 _ _
        · exact h2.less (by omega)
    · exact h1.less (by omega)
theorem freeP_fit (h : Fit P.L.D (k + 3)) (x : Int) : Fit (P.freeP x).1.L.D k := by
  unfold Pl.freeP
  split
  · exact h.less (by omega)
  · have h1 := put_fit (k := k + 2) h x (sealS 3 P.free [])
    split
    · exact setFree_fit h1 _
    · exact h1.less (by omega)
theorem flush_fit : ∀ (ns : List Nat) (P : Pl), Fit P.L.D (k + 4 * ns.length) → Fit (Pl.flush ns P).1.L.D k
  | [], P, h => h
  | [n], P, h => by
    have h1 := commit_fit (k := k) h n (textN n P.ring) P.pages
    unfold Pl.flush
    split
    · exact h1
    · exact h1
  | n :: m :: r, P, h => by
    have h1 := append_fit (k := k + 4 * (m :: r).length) (h.less (by simp; omega)) n (textN n P.ring)
    unfold Pl.flush
    split
    · exact flush_fit (m :: r) _ h1
    · exact h1.less (by omega)
theorem commitP_fit (h : Fit P.L.D (k + 70300)) (ok : P.ok) : Fit P.commit.1.L.D k := by
  rw [commit_flushed]
  split
  · exact h.less (by omega)
  · have h1 : Fit P.flushed.1.L.D (k + 70000) := by
      unfold Pl.flushed
      split
      · have h2 := get_fit (k := k + 70000 + 4) (h.less (by omega)) 0
        split
        · exact flush_fit [0] _ h2
        · exact h2.less (by omega)
      · have hl : (dirtyN P.ring).length ≤ 64 := by
          unfold dirtyN
          rw [List.length_mergeSort, List.length_map]
          exact Nat.le_trans (List.length_filter_le _ _) (Nat.le_trans ok.full ok.most)
        exact flush_fit _ _ (h.less (by omega))
    generalize P.flushed = R at *
    unfold Pl.told
    split
    · split
      · exact checkpoint_fit h1
      · exact h1.less (by omega)
    · exact h1.less (by omega)
theorem rollback_fit (h : Fit P.L.D (k + 1)) : Fit P.rollback.1.L.D k := by
  unfold Pl.rollback
  split
  · exact h.less (by omega)
  · have h1 : Fit P.rolled.L.D (k + 1) := h
    generalize P.rolled = R at *
    have h2 := get_fit h1 0
    unfold Pl.root
    split
    · split <;> exact h2
    · exact h2
end

end Go.Proofs.Ytjihboddejaelaa
