/-
  Rollback of package pool.
-/
import Derived.Test.YtjihboddejaelaaPk9
import Derived.Test.YtjihboddejaelaaShelf
import Derived.Test.YtjihboddejaelaaPk8
import Derived.Test.YtjihboddejaelaaPk6
namespace Go.Proofs.Ytjihboddejaelaa
set_option linter.unusedVariables false
set_option linter.unusedSimpArgs false
open Go.RowKit
open Go.BigFrame
open Go.Maps
set_option linter.unusedVariables false
set_option linter.unusedSimpArgs false

/-- which frames stay while Rollback strikes the turned pages -/
def stays (T : List Nat) (left : Lit → Bool) (f : Pf) : Bool := !(decide (f.n ∈ T)) || left (.int .i64 f.n)
theorem stays_start {T : List Nat} {left : Lit → Bool} {F : List Pf} (h : ∀ x ∈ T, left (.int .i64 x) = true) : F.filter (stays T left) = F := List.filter_eq_self.2 fun f _ => by
  unfold stays
  by_cases hx : f.n ∈ T
  · rw [h _ hx]; simp
  · simp [hx]
theorem stays_end {T : List Nat} {left : Lit → Bool} {F : List Pf} (h : ∀ k, left k = false) : F.filter (stays T left) = F.filter (fun f => !(decide (f.n ∈ T))) := by
  congr 1; funext f; unfold stays; rw [h]; simp
theorem stays_step {T : List Nat} {left : Lit → Bool} {F : List Pf} {n : Nat} (hn : n ∈ T) : F.filter (stays T (fun z => left z && !z.sameKey (.int .i64 (n : Int)))) = dropN n (F.filter (stays T left)) := by
  unfold dropN
  rw [List.filter_filter]
  congr 1; funext f; unfold stays
  by_cases hx : f.n = n
  · subst hx
    dsimp only
    rw [WideAt.sameKey_self (a := .int .i64 (f.n : Int)) trivial]; simp [hn]
  · have hk : (Lit.int .i64 (f.n : Int)).sameKey (.int .i64 (n : Int)) = false := sameKey_ne fun e => by cases e; exact hx (by omega)
    dsimp only
    rw [hk]
    have : (f.n != n) = true := by simpa using hx
    rw [this]; simp
theorem dropN_none {F : List Pf} {n : Nat} (h : ∀ f ∈ F, (f.n : Int) ≠ (n : Int)) : dropN n F = F := List.filter_eq_self.2 fun f hf => by have := h f hf; simp; omega
theorem heldOf_none_iff : ∀ {A : List Nat} {F : List Pf} {x : Int}, A.length = F.length → heldOf A F x = none → ∀ f ∈ F, (f.n : Int) ≠ x
  | [], [], _, _, _, f, hf => by cases hf
  | [], _ :: _, _, h, _, _, _ => by simp at h
  | _ :: _, [], _, h, _, _, _ => by simp at h
  | a :: A, f0 :: F, x, h, h1, f, hf => by
    rw [heldOf] at h1
    by_cases hx : (f0.n : Int) = x
    · rw [if_pos hx] at h1; cases h1
    · rw [if_neg hx] at h1
      rcases List.mem_cons.1 hf with rfl | hf
      · exact hx
      · exact heldOf_none_iff (by simpa using h) h1 f hf
theorem says_has {D : DataW Unit} {T : List Nat} (h : Says D (turnOf T)) : ∀ x ∈ T, Maps.has D (.int .i64 (x : Int)) = true := fun x hx => by
  rw [h.has]; unfold turnOf; rw [if_pos ⟨x, hx, rfl⟩]; rfl
theorem says_held {D : DataW Unit} {A : List Nat} {F : List Pf} (hl : A.length = F.length) (h : Says D (heldOf A F)) : ∀ f ∈ F, Maps.has D (.int .i64 (f.n : Int)) = true := fun f hf => by
  rw [h.has]
  cases hg : heldOf A F f.n with
  | none => exact absurd rfl (heldOf_none_iff hl hg f hf)
  | some _ => rfl
section
variable {w w' : World} {b b' : List (Option Nat)} {gd g m1 m2 m1' m2' p e h t : Nat} {A A1 A2 : List Nat} {a : Nat} {P : Pl}
theorem PM.newTurned (H : PM w b gd g m1 m2 p e h t A P) :
    PM ((w.alloc (.map #[] 0)).setCell ⟨p, 6, none⟩ (.map (some w.heap.size))) b gd g m1 m2 p e h w.heap.size A { P with turned := [] } ∧
    Turn (allB b g m1 m2 p e h t A) (allB b g m1 m2 p e h w.heap.size A) w ((w.alloc (.map #[] 0)).setCell ⟨p, 6, none⟩ (.map (some w.heap.size))) := by
  have hb : Below w.heap.size w (w.alloc (.map #[] 0)) := (Below.refl _ _).alloc (Nat.le_refl _) _
  have H1 := H.below hb
  have hpl := H.has.lt
  have hph : ¬ h = p := fun x => by subst x; exact H.held.notcells H.has
  have hpn : ¬ w.heap.size = p := by omega
  have hm : some p ∈ pb p e h t A := mem_pb.2 (.inl rfl)
  have ht := set_turn [some p] p 6 (.map (some w.heap.size)) (w.alloc (.map #[] 0)) (List.mem_singleton.2 rfl)
  have hlog : ∀ k, some k ∈ b ++ lb g m1 m2 → k < w.heap.size := fun k hk => H.log.lt hk
  refine ⟨⟨H1.log.far ht (fun k h5 h6 => by cases List.mem_singleton.1 h5; exact H.off p h6 hm), H1.has.set 6 _, H1.ring.kept fun x hx => Below.heap_setCell _ _ _ _ (fun y => H.hp (by rw [show p = x from y.symm]; exact hx)), H1.held.far hph _, ?_, H.hp, fun x => by have := H.held.lt; omega, ?_⟩, ?_⟩
  · refine ((GM.made (plainElem Try.prog 3) w).far (p := ⟨p, 6, none⟩) hpn _).congr fun x => ?_
    unfold turnOf; rw [if_neg]; rintro ⟨m, hm, _⟩; cases hm
  · intro k hk1 hk2
    rcases mem_pb.1 hk2 with hk | hk | hk | hk
    · exact H.off k hk1 (mem_pb.2 (.inl hk))
    · exact H.off k hk1 (mem_pb.2 (.inr (.inl hk)))
    · have := hlog k hk1; omega
    · exact H.off k hk1 (mem_pb.2 (.inr (.inr (.inr hk))))
  · have h1 := (Turn.below (allB b g m1 m2 p e h t A) hb).trans (set_turn _ p 6 (.map (some w.heap.size)) _ (List.mem_append_right _ hm))
    refine ⟨h1.os, h1.tape, h1.output, h1.size, h1.block, fun k hk => ?_⟩
    rcases List.mem_append.1 hk with hk | hk
    · exact .inl (List.mem_append_left _ hk)
    · rcases mem_pb.1 hk with hk | hk | hk | hk
      · exact .inl (List.mem_append_right _ (mem_pb.2 (.inl hk)))
      · exact .inl (List.mem_append_right _ (mem_pb.2 (.inr (.inl hk))))
      · exact .inr (Nat.le_of_eq hk.symm)
      · exact .inl (List.mem_append_right _ (mem_pb.2 (.inr (.inr (.inr hk)))))
theorem ring_blocks (H : PM w b gd g m1 m2 p e h t A P) : ∀ k ∈ e :: A, k < w.heap.size := fun k hk => H.ring.lt k hk
end

theorem turn_grown {w w' : World} {r : Nat} {b : List (Option Nat)} (h : w.grownBy w' (some r)) (hr : some r ∈ b) : Turn b b w w' :=
  ⟨h.os, h.tape, h.output, h.size, fun k hk hn => h.block k hk (fun e => hn (e ▸ hr)), fun k hk => .inl hk⟩
theorem Turn.cons {w w' : World} {b b' : List (Option Nat)} (h : Turn b b' w w') (a : Option Nat) : Turn (a :: b) (a :: b') w w' :=
  ⟨h.os, h.tape, h.output, h.size, fun k hk hn => h.block k hk (fun h2 => hn (List.mem_cons_of_mem _ h2)), fun k hk => by
    rcases List.mem_cons.1 hk with hk | hk
    · exact .inl (hk ▸ List.mem_cons_self ..)
    · exact (h.new k hk).imp (List.mem_cons_of_mem _) id⟩
theorem Turn.tail {w w' : World} {b b' : List (Option Nat)} {a : Option Nat} (h : Turn b (a :: b') w w') : Turn b b' w w' := ⟨h.os, h.tape, h.output, h.size, h.block, fun k hk => h.new k (List.mem_cons_of_mem _ hk)⟩
theorem allB_sub {b : List (Option Nat)} {g m1 m2 p e h t k : Nat} {A A' : List Nat} (hs : ∀ x ∈ A', x ∈ A) (hk : some k ∈ allB b g m1 m2 p e h t A') : some k ∈ allB b g m1 m2 p e h t A := by
  rcases List.mem_append.1 hk with hk | hk
  · exact List.mem_append_left _ hk
  · refine List.mem_append_right _ (mem_pb.2 ?_)
    rcases mem_pb.1 hk with hk | hk | hk | hk
    · exact .inl hk
    · exact .inr (.inl hk)
    · exact .inr (.inr (.inl hk))
    · refine .inr (.inr (.inr ?_))
      rcases List.mem_cons.1 hk with hk | hk
      · rw [hk]; exact List.mem_cons_self ..
      · exact List.mem_cons_of_mem _ (hs k hk)
def RollPost (B : List (Option Nat)) (w : World) (gd g p e h : Nat) (P : Pl) (E : Int) (en : Ending) (w' : World) : Prop :=
  en = .returned (.int .i64 E) ∧ ∃ b' m1' m2' t' A', PM w' b' gd g m1' m2' p e h t' A' P ∧ Turn B (allB b' g m1' m2' p e h t' A') w w'

set_option maxRecDepth 100000 in
set_option maxHeartbeats 6400000 in
theorem pool_Rollback (b : List (Option Nat)) (gd g m1 m2 p e h t : Nat) (A : List Nat) (P : Pl) (w : World) (H : PM w b gd g m1 m2 p e h t A P) (ok : P.ok) (ok2 : P.rolled.ok) (fit : Fit P.L.back.D 1) :
    Calls Try.prog 46 #[.pointer (some ⟨p, 0, none⟩)] w (RollPost (allB b g m1 m2 p e h t A) w gd g p e h P.rollback.1 P.rollback.2) := by
  have HP := Lib.hid H
  obtain ⟨DH, hown, hsay, hsz⟩ := H.held
  have x3 : w.cell? ⟨p, 3, none⟩ = some (.map (some h)) := H.has.cell 3
  have SAY := Lib.hid hsay
  have hsl := hown.size_le
  have OK := Lib.hid ok
  have OK2 := Lib.hid ok2
  have FIT := Lib.hid fit
  have hpl := H.has.lt
  have HPL := Lib.hid H.has.lt
  clear H ok ok2 fit hsay hsz
  go_enter Try.func46, Try.ntmps46
  go_wp2_with (first
    | (at_range; refine wpList_range_own _ rfl _ 128 rfl 3 127 lawInt Try.underlying128 _ h _ _ rfl hown ?_; intro w0 hrg0 hg0 hs0)
    | go_in)
  go_frame
  have BL0 := Lib.hid ((Below.refl w.heap.size w).grown hg0 (by omega) (fun j hj => by cases hj))
  obtain ⟨r, hr⟩ : ∃ r, w.heap.size = r := ⟨_, rfl⟩
  rw [hr] at hrg0
  simp only [hr]
  have HR := Lib.hid hr
  clear hr x3 hown hpl hs0 hg0
  go_loopw [16] (fun _ wr => ∃ (left : Lit → Bool) (cnt : Nat), wr.ranges Try.prog 3 frElem h r P.ring.length DH left cnt ∧ Below w.heap.size w wr ∧ ∀ f ∈ P.ring, left (.int .i64 (f.n : Int)) = false → f.pins = 0)
    (fun _ wr => wr.rangeLeft h r)
  case atStart => exact ⟨_, _, hrg0, BL0.out, fun f hf hl => by rw [says_held HP.out.ring.len SAY.out f hf] at hl; cases hl⟩
  case round =>
    obtain ⟨left, cnt, hrg, hbl, hpins⟩ := hrel
    have HB := Lib.hid hbl
    have HPI := Lib.hid hpins
    clear hrg0 hpins
    go_wp2_with (first
      | (at_next; refine wpList_next_fr _ rfl _ rfl h r _ DH left cnt rfl hrg _ SAY.out ?_ ?_)
      | go_in)
    · intro hc0 hl0
      have H1 := Lib.hid (HP.out.below hbl)
      have AP := Lib.hid (fun f hf => HPI.out f hf (hl0 _))
      have T1 := Lib.hid (Turn.below (allB b g m1 m2 p e h t A) hbl)
      have x0 : wr.cell? ⟨p, 0, none⟩ = some (ptrB g) := H1.out.has.cell 0
      have BK := Lib.hid (pm_Back H1.out OK.out.log)
      clear hrg hbl hl0 hc0
      go_wp2_with (first
        | (go_at_call 20; refine BK.out.mono ?_; rintro en w1 ⟨rfl, b1, n1, n2, hpm, ht⟩; have HM := Lib.hid hpm; have HT := Lib.hid (T1.out.trans ht); have y6 : w1.cell? ⟨p, 6, none⟩ = some (.map (some t)) := hpm.has.cell 6; obtain ⟨DT, hownT, saysT, szT⟩ := hpm.turned; clear hpm ht)
        | (at_range; refine wpList_range_own _ rfl _ 102 rfl 3 3 lawInt Try.underlying102 _ t _ _ rfl hownT ?_; intro w2 hrg2 hg2 hs2)
        | go_in)
      go_frame
      have BL2 := (Below.refl w1.heap.size w1).grown hg2 (by omega) (fun j hj => by cases hj)
      have HSZ := Lib.hid HT.out.size
      obtain ⟨r2, hr2⟩ : ∃ r, w1.heap.size = r := ⟨_, rfl⟩
      have LT2 : Hid (∀ k, some k ∈ allB b1 g n1 n2 p e h t A → k < r2) := fun k hk => hr2 ▸ HM.out.lt k hk
      have H2 := Lib.hid (HM.out.below BL2)
      have T2 := Lib.hid ((HT.out.trans (Turn.below _ BL2)).more (a := r2) (by have := HSZ.out; omega))
      rw [hr2] at hrg2
      simp only [hr2]
      clear x0 y6 hownT szT hs2 hg2 BL2 hr2 HM HT H1 T1 BK HB HR HSZ
      have SAYT := Lib.hid saysT
      clear saysT
      go_loopw [35] (fun _ wq => ∃ (left : Lit → Bool) (cnt : Nat) (A' : List Nat), wq.ranges Try.prog 3 (plainElem Try.prog 3) t r2 P.turned.length DT left cnt ∧ PM wq b1 gd g n1 n2 p e h t A' { P with L := P.L.back, ring := P.ring.filter (stays P.turned left) } ∧
          Turn (allB b g m1 m2 p e h t A) (some r2 :: allB b1 g n1 n2 p e h t A') w wq ∧ ∀ k ∈ A', k ∈ A)
        (fun _ wq => wq.rangeLeft t r2)
      case atStart => exact ⟨_, _, A, hrg2, by rw [stays_start (says_has SAYT.out)]; exact H2.out, T2.out, fun _ hk => hk⟩
      case round =>
        obtain ⟨left2, cnt2, A', hrg3, hpm3, ht3, hsub⟩ := hrel
        have HM3 := Lib.hid hpm3
        have HT3 := Lib.hid ht3
        have SUB := Lib.hid hsub
        clear hpm3 ht3 hsub hrg2 H2 T2
        go_wp2_with (first
          | (at_next; refine wpList_next_ranges_ii _ rfl _ rfl 3 3 .i64 .i64 lawInt Try.underlying3 Try.underlying3 t r2 _ _ _ _ rfl hrg3 ?_ ?_)
          | go_in)
        · intro hc0 hl0
          have e2 := stays_end (T := P.turned) (F := P.ring) hl0
          have HM4 := HM3.out
          rw [e2] at HM4
          have NT := HM4.newTurned
          rw [World.setCell_alloc_past _ _ _ _ HM4.has.lt] at NT
          have NT := Lib.hid NT
          have TT := Lib.hid (HT3.out.tail.trans NT.out.2)
          have PG : Hid (∀ wz, PM wz b1 gd g n1 n2 p e h wr.heap.size A' { P with L := P.L.back, ring := P.ring.filter (fun f => !(decide (f.n ∈ P.turned))), turned := [] } → Calls Try.prog 37 #[ptrB g] wz fun e w' => e = .returned (.int .i64 P.L.pages) ∧ wz = w') := fun wz hz => wal_Pages b1 gd g n1 n2 P.L.back.rw wz hz.log
          have S4 := NT.out.1.set (P' := P.rolled) 4 (.int .i64 P.L.pages) rfl rfl rfl rfl
          rw [World.setCell_alloc_past _ _ _ _ (by rw [World.size_setCell]; exact HM4.has.lt)] at S4
          have S4 := Lib.hid S4
          have RD := Lib.hid (pool_Read b1 gd g n1 n2 p e h wr.heap.size A' P.rolled 0 ⟨by omega, by omega⟩ _ S4.out.1 OK2.out FIT.out)
          have x6 : wr.cell? ⟨p, 6, none⟩ = some (.map (some t)) := HM4.has.cell 6
          have x4 : wr.cell? ⟨p, 4, none⟩ = some (.int .i64 P.pages) := HM4.has.cell 4
          have x0 : wr.cell? ⟨p, 0, none⟩ = some (ptrB g) := HM4.has.cell 0
          have xf := HM4.has.frozen
          have xl := HM4.has.lt
          have hmk := make_ii
          have HR0 : Hid (P.rollback = P.rolled.root) := Lib.hid (if_neg fun hx => by
            obtain ⟨f, hf, hf2⟩ := List.any_eq_true.1 hx
            have := AP.out f hf
            rw [this] at hf2; cases hf2)
          have GOK := Lib.hid (get_ok OK2.out 0)
          have HS : Hid (P.rolled.root = if (P.rolled.get 0).2 = 0 then (match openP (P.rolled.get 0).1.lastF.s with
            | none => ({ (P.rolled.get 0).1 with free := 0 }, 4)
            | some pg => ({ (P.rolled.get 0).1 with free := pg.2.1 }, 0)) else P.rolled.get 0) := rfl
          have TX : Hid (P.rolled.text 0 = if (P.rolled.get 0).2 = 0 then (P.rolled.get 0).1.lastF.s else ⟨#[]⟩) := rfl
          obtain ⟨T, hT⟩ : ∃ T, P.rolled.text 0 = T := ⟨_, rfl⟩
          obtain ⟨Q, hQ⟩ : ∃ Q, (P.rolled.get 0).1 = Q := ⟨_, rfl⟩
          obtain ⟨E, hE⟩ : ∃ E, (P.rolled.get 0).2 = E := ⟨_, rfl⟩
          have hPQ : P.rolled.get 0 = (Q, E) := by rw [← hQ, ← hE]
          rw [hT, hQ, hE] at RD TX
          rw [hQ] at GOK
          rw [hPQ] at HS
          rw [← HR0.out] at HS
          dsimp only at HS
          clear hT hQ hE hPQ HR0 HM4 e2 hl0 hc0 hrg3 HM3 HT3
          by_cases hE0 : E = 0
          · subst hE0
            have HT := Lib.hid (TX.out.trans (if_pos rfl))
            have HS2 := Lib.hid (HS.out.trans (if_pos rfl))
            rw [← HT.out] at HS2
            have TZ : T.size ≤ 1048576 := by rw [HT.out]; exact Nat.le_trans (lastF_size GOK.out) (by omega)
            have OP := Lib.hid (fun w => page_Open T TZ w)
            clear HS TX TZ
            cases ho : openP T with
            | none =>
              have OP2 : Hid (∀ w, Calls Try.prog 90 #[.string T] w fun e w' => e = .returned (.tuple #[.agg #[.int .i64 0, .int .i64 0, .slice none 0 0], .int .i64 4]) ∧ Below w.heap.size w w') := fun w => by
                have := OP.out w
                rw [ho] at this; exact this
              have HS3 : Hid (P.rollback = ({ Q with free := 0 }, 4)) := by have := HS2.out; rw [ho] at this; exact this
              clear OP HS2 ho
              go_wp2_with (first
                | (go_at_call 37; refine (PG.out _ NT.out.1).mono ?_; rintro en w4 ⟨rfl, rfl⟩)
                | (go_at_call 89; refine RD.out.mono ?_; rintro en w5 ⟨rfl, b5, n5, n6, A5, hpm5, ht5⟩)
                | (go_at_call 90; refine (OP2.out _).mono ?_; rintro en w6 ⟨rfl, hb6⟩; have HM6 := Lib.hid (hpm5.below hb6); have y5 : w6.cell? ⟨p, 5, none⟩ = some (.int .i64 Q.free) := HM6.out.has.cell 5; have yf := HM6.out.has.frozen; have yl := HM6.out.has.lt)
                | go_in)
              go_ret
              rw [HS3.out]
              have q2 := HM6.out.set (P' := { Q with free := 0 }) 5 (.int .i64 0) rfl rfl rfl rfl
              have q3 : Below (w6.setCell ⟨p, 5, none⟩ (.int .i64 0)).heap.size (w6.setCell ⟨p, 5, none⟩ (.int .i64 0)) ((w6.setCell ⟨p, 5, none⟩ (.int .i64 0)).alloc (.cells #[.int .i64 0, .int .i64 0, .slice none 0 0] 135)) := (Below.refl _ _).alloc (Nat.le_refl _) _
              exact ⟨rfl, b5, n5, n6, _, A5, q2.1.below q3, ((((TT.out.trans S4.out.2).trans ht5).trans (Turn.below _ hb6)).trans q2.2).trans (Turn.below _ q3)⟩
            | some pg =>
              obtain ⟨k, l, cs⟩ := pg
              have OP2 : Hid (∀ w, Calls Try.prog 90 #[.string T] w fun e w' => ∃ A c, e = .returned (.tuple #[.agg #[.int .i64 k, .int .i64 l, .slice A cs.length c], .int .i64 0]) ∧ SS w' A cs.length cs ∧ Below w.heap.size w w') := fun w => by
                have := OP.out w
                rw [ho] at this; exact this
              have HS3 : Hid (P.rollback = ({ Q with free := l }, 0)) := by have := HS2.out; rw [ho] at this; exact this
              clear OP HS2 ho
              go_wp2_with (first
                | (go_at_call 37; refine (PG.out _ NT.out.1).mono ?_; rintro en w4 ⟨rfl, rfl⟩)
                | (go_at_call 89; refine RD.out.mono ?_; rintro en w5 ⟨rfl, b5, n5, n6, A5, hpm5, ht5⟩)
                | (go_at_call 90; refine (OP2.out _).mono ?_; rintro en w6 ⟨A6, c6, rfl, hss, hb6⟩; clear hss; have HM6 := Lib.hid (hpm5.below hb6); have y5 : w6.cell? ⟨p, 5, none⟩ = some (.int .i64 Q.free) := HM6.out.has.cell 5; have yf := HM6.out.has.frozen; have yl := HM6.out.has.lt)
                | go_in)
              go_ret
              rw [HS3.out]
              have q2 := HM6.out.set (P' := { Q with free := l }) 5 (.int .i64 l) rfl rfl rfl rfl
              have q3 : Below (w6.setCell ⟨p, 5, none⟩ (.int .i64 l)).heap.size (w6.setCell ⟨p, 5, none⟩ (.int .i64 l)) ((w6.setCell ⟨p, 5, none⟩ (.int .i64 l)).alloc (.cells #[.int .i64 k, .int .i64 l, .slice A6 cs.length c6] 135)) := (Below.refl _ _).alloc (Nat.le_refl _) _
              exact ⟨rfl, b5, n5, n6, _, A5, q2.1.below q3, ((((TT.out.trans S4.out.2).trans ht5).trans (Turn.below _ hb6)).trans q2.2).trans (Turn.below _ q3)⟩
          · have HS2 := Lib.hid (HS.out.trans (if_neg hE0))
            clear HS TX
            go_wp2_with (first
              | (go_at_call 37; refine (PG.out _ NT.out.1).mono ?_; rintro en w4 ⟨rfl, rfl⟩)
              | (go_at_call 89; refine RD.out.mono ?_; rintro en w5 ⟨rfl, b5, n5, n6, A5, hpm5, ht5⟩)
              | go_in)
            go_ret
            rw [HS2.out]
            exact ⟨rfl, b5, n5, n6, _, A5, hpm5, (TT.out.trans S4.out.2).trans ht5⟩
        · intro x c w3 cnt3 hwx hwc hlx hat hrg4 hlt3 hg4 hs4 hen
          obtain ⟨c', hc', _⟩ := says_some SAYT.out hat
          obtain ⟨n, hn, rfl⟩ := turnOf_mem hc'
          have hoff : some r2 ∉ allB b1 g n1 n2 p e h t A' := fun hk => by have := LT2.out r2 (allB_sub SUB.out hk); omega
          have H4 := Lib.hid (HM3.out.far (turn_grown hg4 (List.mem_singleton.2 rfl)) (fun k hk hk2 => hoff (by rw [List.mem_singleton.1 hk] at hk2; exact hk2)))
          have T4 := Lib.hid (HT3.out.trans (turn_grown hg4 (List.mem_cons_self ..)))
          have z3 : w3.cell? ⟨p, 3, none⟩ = some (.map (some h)) := H4.out.has.cell 3
          have HG := Lib.hid H4.out.held
          have HL4 := Lib.hid H4.out.ring.len
          have STEP := Lib.hid (stays_step (left := left2) (F := P.ring) hn)
          have FS : Hid (∀ f ∈ P.ring.filter (stays P.turned left2), f.n ≤ 4294967296) := fun f hf => by have := OK.out.pages f (List.mem_filter.1 hf).1; have := OK.out.few; omega
          have NM : Hid (((P.ring.filter (stays P.turned left2)).map (·.n)).Nodup) := Lib.hid (OK.out.names.sublist ((List.filter_sublist).map _))
          obtain ⟨F', hF'⟩ : ∃ F', P.ring.filter (stays P.turned left2) = F' := ⟨_, rfl⟩
          rw [hF'] at H4 HG HL4 STEP FS NM
          clear hF' hc' hat
          cases hh : heldOf A' F' n with
          | none =>
            have HK : Hid (ptrO (heldOf A' F' n) = .pointer none) := Lib.hid (by rw [hh]; rfl)
            have HN := Lib.hid (dropN_none (heldOf_none_iff HL4.out hh))
            clear hh
            go_wp2_with (first
              | (at_lookup; refine wpList_lookup_fr _ rfl _ _ rfl h _ (heldOf A' F') rfl HG.out n rfl hwx ?_; rw [HK.out])
              | go_in)
            go_roundw
            case rel => exact ⟨_, cnt3, A', hrg4, by rw [STEP.out, HN.out]; exact H4.out, T4.out, SUB.out⟩
            case measure => rw [hrg4.left_eq, hrg3.left_eq]; exact hlt3
          | some a =>
            have HK : Hid (ptrO (heldOf A' F' n) = ptrB a) := Lib.hid (by rw [hh]; rfl)
            obtain ⟨A1, A2, F1, f, F2, hA', hF2, hl, hfn⟩ := heldOf_split hh
            subst hA'
            obtain rfl : f.n = n := by omega
            have FN := FS.out f (by rw [hF2]; exact List.mem_append_right _ (List.mem_cons_self ..))
            have LV := Lib.hid (pm_leaveF H4.out hF2 hl NM.out FN)
            have HN := Lib.hid (show dropN f.n F' = F1 ++ F2 by have := NM.out; rw [hF2] at this ⊢; exact dropN_mid this)
            have TN : Hid (some t ∉ (some h :: (e :: (A1 ++ a :: A2)).map some)) := fun hk => by
              rcases List.mem_cons.1 hk with hk | hk
              · cases hk; exact H4.out.ht rfl
              · exact H4.out.ring.off H4.out.turned (mem_somes.1 hk)
            have RN : Hid (some r2 ∉ (some h :: (e :: (A1 ++ a :: A2)).map some)) := fun hk => hoff (List.mem_append_right _ (mem_pb.2 (by
              rcases List.mem_cons.1 hk with hk | hk
              · cases hk; exact .inr (.inl rfl)
              · exact .inr (.inr (.inr (mem_somes.1 hk))))))
            have HF2 := Lib.hid hF2
            clear hh hl hF2 FN hoff hfn
            go_wp2_with (first
              | (at_lookup; refine wpList_lookup_fr _ rfl _ _ rfl h _ (heldOf (A1 ++ a :: A2) F') rfl HG.out f.n rfl hwx ?_; rw [HK.out])
              | (go_at_call 95; refine LV.out.mono ?_; rintro e2 w4 ⟨⟨rfl, hpm5, _, ht5⟩, hfine⟩)
              | go_in)
            go_roundw
            case rel =>
              refine ⟨_, cnt3, A1 ++ A2, ranges_same hrg4 (hfine.block t H4.out.turned.lt TN.out) (hfine.block r2 hrg4.lt RN.out), ?_, T4.out.trans (ht5.cons _), fun k hk => SUB.out k ?_⟩
              · rw [STEP.out, HN.out]; exact hpm5
              · simp only [List.mem_append, List.mem_cons] at hk ⊢
                rcases hk with hk | hk
                · exact .inl hk
                · exact .inr (.inr hk)
            case measure =>
              rw [(ranges_same hrg4 (hfine.block t H4.out.turned.lt TN.out) (hfine.block r2 hrg4.lt RN.out)).left_eq, hrg3.left_eq]; exact hlt3
    · intro x c w1 cnt1 hsx hlx hrg1 hlt hg1 hs1 hen
      obtain ⟨A1, A2, F1, f, F2, hA, hF, hl, hfn⟩ := heldOf_split hsx
      subst hA
      subst hfn
      have HB1 := Lib.hid (HB.out.grown hg1 HB.out.size (fun j hj => by cases hj; exact Nat.le_of_eq HR.out))
      have hat := HP.out.ring
      rw [hF] at hat
      have hat := (hat.at hl).belowS HB1.out
      have a2 : w1.cell? ⟨c, 2, none⟩ = some (.int .i64 f.pins) := hat.cell 2
      have HF := Lib.hid hF
      have H1 := Lib.hid (HP.out.below HB1.out)
      have ND := Lib.hid OK.out.names
      clear hat hl hF hsx hbl
      by_cases hp0 : f.pins = 0
      · rw [hp0] at a2
        have a2 : w1.cell? ⟨c, 2, none⟩ = some (.int .i64 0) := a2
        go_wp2_with go_in
        go_roundw
        case rel =>
          refine ⟨_, cnt1, hrg1, HB1.out, fun f2 hf2 hlf => ?_⟩
          by_cases hx : f2.n = f.n
          · have : f2 = f := by
              have hnd := ND.out
              rw [HF.out] at hnd hf2
              obtain ⟨q1, q2, _⟩ := names_split hnd
              rcases List.mem_append.1 hf2 with h1 | h1
              · exact absurd (by rw [hx]) (q1 f2 h1)
              · rcases List.mem_cons.1 h1 with h1 | h1
                · exact h1
                · exact absurd (by rw [hx]) (q2 f2 h1)
            rw [this]; exact hp0
          · have hk : (Lit.int .i64 (f2.n : Int)).sameKey (.int .i64 (f.n : Int)) = false := sameKey_ne fun e => hx (by have h5 := (Lit.int.inj e).2; omega)
            (try dsimp only at hlf)
            rw [hk] at hlf
            exact HPI.out f2 hf2 (by simpa using hlf)
        case measure => rw [hrg1.left_eq, hrg.left_eq]; exact hlt
      · have g0 : (0 : Int) < (f.pins : Int) := by omega
        go_wp2_with go_in
        go_ret
        have HE : P.rollback = (P, 6) := if_pos (List.any_eq_true.2 ⟨f, by rw [HF.out]; exact List.mem_append_right _ (List.mem_cons_self ..), by simpa using (by omega : 0 < f.pins)⟩)
        rw [HE]
        exact ⟨rfl, b, m1, m2, t, _, H1.out, Turn.below _ HB1.out⟩
end Go.Proofs.Ytjihboddejaelaa

/-
  What Commit of package pool leans on: rows of page numbers, sorted by package slices (the shelf's contract).
-/
namespace Go.Proofs.Ytjihboddejaelaa
set_option linter.unusedVariables false
set_option linter.unusedSimpArgs false
open Go.RowKit
open Go.BigFrame
open Go.Maps
set_option linter.unusedVariables false
set_option linter.unusedSimpArgs false

theorem pInfoInt : (Try.prog.info? 3).map (fun i => (i.zero, i.size, i.bytes)) = some (some (.int .i64 0), 1, 8) := by kernel_rfl
def pNums (l : List Nat) : List Value := l.map (fun n : Nat => .int .i64 (n : Int))
theorem pNums_one {l : List Nat} : ∀ u ∈ pNums l, u.oneCell' = true := fun u hu => by
  obtain ⟨v, _, rfl⟩ := List.mem_map.1 hu; rfl
/-- the slice value '.slice A n c' reads as these page numbers -/
def NL (w : World) (A : Option Addr) (l : List Nat) : Prop :=
  0 < l.length → ∃ b, A = some ⟨b, 0, none⟩ ∧ b < w.heap.size ∧ ∀ i k : Nat, l[i]? = some k → w.cell? ⟨b, i, none⟩ = some (.int .i64 (k : Int))
theorem NL.turn {w w' : World} {A : Option Addr} {l : List Nat} {b b' : List (Option Nat)} (h : NL w A l) (ht : Turn b b' w w') (hn : ∀ k, A.map (·.block) = some k → some k ∉ b) : NL w' A l := fun h0 => by
  obtain ⟨k, rfl, hl, hc⟩ := h h0
  refine ⟨k, rfl, Nat.lt_of_lt_of_le hl ht.size, fun i x hx => ?_⟩
  exact (World.cell?_of_block (ht.block k hl (hn k rfl))).trans (hc i x hx)
theorem perm_sorted : ∀ {l1 l2 : List Nat}, l1.Pairwise (· ≤ ·) → l2.Pairwise (· ≤ ·) → l1.Perm l2 → l1 = l2
  | [], l2, _, _, h => (List.Perm.nil_eq h)
  | a :: l1, [], _, _, h => by have := h.length_eq; simp at this
  | a :: l1, b :: l2, h1, h2, h => by
    rw [List.pairwise_cons] at h1 h2
    have e : a = b := by
      have ha : a ∈ b :: l2 := h.mem_iff.1 (List.mem_cons_self ..)
      have hb : b ∈ a :: l1 := h.mem_iff.2 (List.mem_cons_self ..)
      rcases List.mem_cons.1 ha with ha | ha
      · exact ha
      · rcases List.mem_cons.1 hb with hb | hb
        · exact hb.symm
        · have := h1.1 b hb; have := h2.1 a ha; omega
    subst e
    rw [perm_sorted h1.2 h2.2 ((List.perm_cons a).1 h)]
theorem sort_perm {l1 l2 : List Nat} (h : l1.Perm l2) : l1.mergeSort (· ≤ ·) = l2.mergeSort (· ≤ ·) := by
  have hs : ∀ l : List Nat, (l.mergeSort (fun a b => decide (a ≤ b))).Pairwise (· ≤ ·) := fun l => by
    have := List.pairwise_mergeSort (le := fun a b : Nat => decide (a ≤ b)) (fun a b c h1 h2 => by simp at h1 h2 ⊢; omega) (fun a b => by simp; omega) l
    exact this.imp (fun h => by simpa using h)
  exact perm_sorted (hs l1) (hs l2) (((List.mergeSort_perm l1 _).trans h).trans (List.mergeSort_perm l2 _).symm)
theorem sort_ints (l : List Nat) : (l.map (fun n : Nat => (n : Int))).mergeSort (fun x y => decide (x ≤ y)) = (l.mergeSort (· ≤ ·)).map (fun n : Nat => (n : Int)) :=
  (List.map_mergeSort (f := fun n : Nat => (n : Int)) (r := fun a b => decide (a ≤ b)) (s := fun x y => decide (x ≤ y)) (fun a _ b _ => by simp)).symm
def SortPost (w : World) (base : Nat) (v : Value) (l : List Nat) (en : Ending) (w' : World) : Prop :=
  en = .returned (.tuple #[]) ∧ w.grownBy w' v.ownBlock ∧ ∃ A c, v = .slice A l.length c ∧ NL w' A (l.mergeSort (· ≤ ·)) ∧ ∀ k, A.map (·.block) = some k → base ≤ k ∧ k < w'.heap.size
theorem pool_sort {w : World} {base : Nat} {v : Value} {l : List Nat} (h : w.ownsRow base 3 1 v l.length (pNums l)) (hn : l.length ≤ 1000000) : Calls Try.prog 93 #[v] w (SortPost w base v l) := by
  rcases h.2 with ⟨rfl, h0⟩ | ⟨g, cap, cur, rfl, hb, hg, hnc, hcm, hcs, hxs⟩
  · refine (Try.slices_Sort_int_none none 0 w).mono ?_
    rintro en w' ⟨rfl, rfl⟩
    have hl : l = [] := List.eq_nil_of_length_eq_zero h0
    subst hl
    exact ⟨rfl, grownBy_refl _ _, none, 0, rfl, fun h1 => by simp at h1, fun k hk => by cases hk⟩
  · have hlt : g < w.heap.size := (Array.getElem?_eq_some_iff.1 hg).1
    have hH : Sort.Holds (Value.int .i64) w g 0 (l.map (fun n : Nat => (n : Int))).toArray := fun j hj => by
      have hj' : j < l.length := by simpa using hj
      have hget : (l.map (fun n : Nat => (n : Int))).toArray[j]! = (l[j] : Int) := by
        rw [getElem!_pos _ j hj]; simp
      have hc : cur[j]? = some (.int .i64 (l[j] : Int)) := by
        have : (cur.toList.take (l.length * 1))[j]? = (pNums l)[j]? := by rw [hxs]
        rw [List.getElem?_take, if_pos (by omega)] at this
        simpa [pNums, hj'] using this
      rw [hget]
      exact ⟨by simp [World.cell?, hg, hc], by simp [World.frozen?, hg]⟩
    have e := Try.slices_Sort_int g 0 cap (l.map (fun n : Nat => (n : Int))) w hH hlt (by simp; omega)
    rw [List.length_map] at e
    refine e.mono ?_
    rintro en w' ⟨rfl, n, os, rfl⟩
    rw [sort_ints]
    have hH2 : Sort.Holds (Value.int .i64) (Sort.ahead w n) g 0 (l.map (fun n : Nat => (n : Int))).toArray := hH
    have hsz : ((l.mergeSort (· ≤ ·)).map (fun n : Nat => (n : Int))).toArray.size = (l.map (fun n : Nat => (n : Int))).toArray.size := by simp [List.length_mergeSort]
    have hlt2 : g < (Sort.putRow (Value.int .i64) (Sort.ahead w n) g 0 ((l.mergeSort (· ≤ ·)).map (fun n : Nat => (n : Int))).toArray).heap.size := by rw [Sort.size_putRow]; exact hlt
    refine ⟨rfl, ⟨rfl, rfl, rfl, ?_, fun i hi hne => ?_⟩, some ⟨g, 0, none⟩, cap, rfl, fun _ => ⟨g, rfl, ?_, fun i k hk => ?_⟩, fun k hk => ?_⟩
    · rw [Sort.size_grow, Sort.size_putRow]; exact Nat.le_add_right _ _
    · rw [Sort.heap_grow_old _ _ (by rw [Sort.size_putRow]; exact hi)]
      have hne2 : ¬ g = i := fun e => hne (by rw [e]; rfl)
      simp [Sort.putRow, Sort.mapBlock, Array.getElem?_modify, hne2, Sort.ahead]
    · rw [Sort.size_grow]; omega
    · have hik : i < (l.mergeSort (· ≤ ·)).length := by
        rcases Nat.lt_or_ge i (l.mergeSort (· ≤ ·)).length with h1 | h1
        · exact h1
        · rw [List.getElem?_eq_none h1] at hk; cases hk
      rw [Sort.cell?_grow _ _ _ hlt2]
      have := Sort.cell?_putRow (Value.int .i64) (Sort.ahead w n) g 0 _ ((l.mergeSort (· ≤ ·)).map (fun n : Nat => (n : Int))).toArray hH2 hsz i (by simpa using hik)
      rw [Nat.zero_add] at this
      rw [this, getElem!_pos _ i (by simpa using hik)]
      have e3 : (l.mergeSort (· ≤ ·))[i] = k := by rw [List.getElem?_eq_getElem hik] at hk; exact Option.some.inj hk
      simp [e3]
    · cases hk
      exact ⟨hb, show g < _ by rw [Sort.size_grow]; omega⟩
end Go.Proofs.Ytjihboddejaelaa

/-
  What Commit of package pool leans on: the steps of flush.
-/
namespace Go.Proofs.Ytjihboddejaelaa
set_option linter.unusedVariables false
set_option linter.unusedSimpArgs false
open Go.RowKit
open Go.BigFrame
open Go.Maps
set_option linter.unusedVariables false
set_option linter.unusedSimpArgs false

section
variable {w w' : World} {b b' : List (Option Nat)} {gd g m1 m2 m1' m2' p e h t : Nat} {A A1 A2 : List Nat} {a : Nat} {P : Pl}
theorem pm_Commit (H : PM w b gd g m1 m2 p e h t A P) (ok : P.L.ok) (fit : Fit P.L.D 4) (n : Int) (s : ByteArray) (q : Int) :
    Calls Try.prog 19 #[ptrB g, .int .i64 n, .string s, .int .i64 q] w (PmPost (allB b g m1 m2 p e h t A) w gd g p e h t A { P with L := P.L.commit n s q } (.int .i64 (P.L.commitE n s q))) := by
  refine (lr_Commit H.log ok fit n s q).mono fun en w' hp => ?_
  obtain ⟨he, b', m1', m2', h1, h2⟩ := hp
  obtain ⟨h3, h4⟩ := H.onLog h1 h2
  exact ⟨he, b', m1', m2', h3, h4⟩
theorem pm_Checkpoint (H : PM w b gd g m1 m2 p e h t A P) (ok : P.L.ok) (hd : P.L.D.down = false) (fit : Fit P.L.D 70000) :
    Calls Try.prog 21 #[ptrB g] w (PmPost (allB b g m1 m2 p e h t A) w gd g p e h t A { P with L := P.L.checkpoint.1 } (.int .i64 P.L.checkpoint.2)) := by
  obtain ⟨e1, e2⟩ := rw_checkpoint ok hd
  rw [e2]
  refine (wal_Checkpoint b gd g m1 m2 P.L.rw w H.log fit ok.slot ok.number (show P.L.pages ≤ _ by have := ok.pages; omega) (fun x => by show lastAt P.L.fs x ≤ _; have := lastAt_le P.L.fs x; have := ok.len; omega)).mono fun en w' hp => ?_
  · rw [← e1] at hp
    obtain ⟨he, b', m1', m2', h1, h2⟩ := hp
    obtain ⟨h3, h4⟩ := H.onLog h1 h2
    exact ⟨he, b', m1', m2', h3, h4⟩
end
theorem clean_mid {F1 F2 : List Pf} {f : Pf} (h : ((F1 ++ f :: F2).map (·.n)).Nodup) : cleanN f.n (F1 ++ f :: F2) = F1 ++ { f with dirty := false } :: F2 := by
  obtain ⟨h1, h2, _⟩ := names_split h
  have hid : ∀ F : List Pf, (∀ q ∈ F, (q.n : Int) ≠ (f.n : Int)) → F.map (fun q => if q.n = f.n then { q with dirty := false } else q) = F := fun F hF => by
    have : F.map (fun q => if q.n = f.n then { q with dirty := false } else q) = F.map id := List.map_congr_left fun q hq => by
      rw [if_neg (fun hx => hF q hq (by rw [hx]))]; rfl
    rw [this, List.map_id]
  unfold cleanN
  rw [List.map_append, List.map_cons, hid F1 h1, hid F2 h2, if_pos rfl]
theorem text_mid {F1 F2 : List Pf} {f : Pf} (h : ((F1 ++ f :: F2).map (·.n)).Nodup) : textN f.n (F1 ++ f :: F2) = f.s := by
  obtain ⟨h1, _, _⟩ := names_split h
  unfold textN
  rw [find_at (x := ((f.n : Nat) : Int)) h1 rfl]; rfl
theorem clean_names (n : Nat) (F : List Pf) : (cleanN n F).map (·.n) = F.map (·.n) := by
  unfold cleanN
  rw [List.map_map]
  refine List.map_congr_left fun f _ => ?_
  show (if f.n = n then { f with dirty := false } else f).n = f.n
  split <;> rfl
theorem clean_size {n : Nat} {F : List Pf} (h : ∀ f ∈ F, f.s.size = 1024) : ∀ f ∈ cleanN n F, f.s.size = 1024 := fun f hf => by
  obtain ⟨f0, h0, rfl⟩ := List.mem_map.1 hf
  split
  · exact h f0 h0
  · exact h f0 h0
theorem Pl.ok.clean {P : Pl} (ok : P.ok) {L' : Lg} (hL : L'.ok) (n : Nat) : Pl.ok { P with L := L', ring := cleanN n P.ring } :=
  ⟨hL, by show ((cleanN n P.ring).map (·.n)).Nodup; rw [clean_names]; exact ok.names,
   fun f hf => by
    have h1 : f.n ∈ (cleanN n P.ring).map (·.n) := List.mem_map.2 ⟨f, hf, rfl⟩
    rw [clean_names] at h1
    obtain ⟨f0, h0, h2⟩ := List.mem_map.1 h1
    have := ok.pages f0 h0
    show f.n < P.pages
    omega, clean_size ok.size, ok.most, by show (cleanN n P.ring).length ≤ _; unfold cleanN; rw [List.length_map]; exact ok.full, ok.few, ok.link, ok.turnd, ok.turns⟩
/-- the dirty frames whose numbers are not left -/
def seenD (left : Lit → Bool) (f : Pf) : Bool := f.dirty && !left (.int .i64 f.n)
theorem seen_start {left : Lit → Bool} {F : List Pf} (h : ∀ f ∈ F, left (.int .i64 f.n) = true) : F.filter (seenD left) = [] := List.filter_eq_nil_iff.2 fun f hf => by
  unfold seenD; rw [h f hf]; simp
theorem seen_end {left : Lit → Bool} {F : List Pf} (h : ∀ k, left k = false) : F.filter (seenD left) = F.filter (·.dirty) := by
  congr 1; funext f; unfold seenD; rw [h]; simp
theorem seen_other {left : Lit → Bool} {f q : Pf} (h : (q.n : Int) ≠ (f.n : Int)) : seenD (fun z => left z && !z.sameKey (.int .i64 (f.n : Int))) q = seenD left q := by
  have hk : (Lit.int .i64 (q.n : Int)).sameKey (.int .i64 (f.n : Int)) = false := sameKey_ne fun e => h (Lit.int.inj e).2
  unfold seenD; dsimp only; rw [hk]; simp
theorem seen_step {left : Lit → Bool} {F1 F2 : List Pf} {f : Pf} (h : ((F1 ++ f :: F2).map (·.n)).Nodup) (hl : left (.int .i64 f.n) = true) :
    (((F1 ++ f :: F2).filter (seenD (fun z => left z && !z.sameKey (.int .i64 (f.n : Int))))).map (·.n)).Perm ((((F1 ++ f :: F2).filter (seenD left)).map (·.n)) ++ (if f.dirty then [f.n] else [])) := by
  obtain ⟨h1, h2, _⟩ := names_split h
  have e1 : F1.filter (seenD (fun z => left z && !z.sameKey (.int .i64 (f.n : Int)))) = F1.filter (seenD left) := List.filter_congr fun q hq => seen_other (h1 q hq)
  have e2 : F2.filter (seenD (fun z => left z && !z.sameKey (.int .i64 (f.n : Int)))) = F2.filter (seenD left) := List.filter_congr fun q hq => seen_other (h2 q hq)
  have e3 : seenD left f = false := by unfold seenD; rw [hl]; simp
  have e4 : seenD (fun z => left z && !z.sameKey (.int .i64 (f.n : Int))) f = f.dirty := by
    unfold seenD; dsimp only; rw [WideAt.sameKey_self (a := .int .i64 (f.n : Int)) trivial]; simp
  rw [List.filter_append, List.filter_append, List.filter_cons, List.filter_cons, e1, e2, e3, e4]
  cases hd : f.dirty
  · simp
  · simp only [if_true, if_false, Bool.false_eq_true, List.map_append, List.map_cons, List.append_assoc]
    exact List.Perm.append_left _ (List.perm_append_comm (l₁ := [f.n]))
end Go.Proofs.Ytjihboddejaelaa

/-
  A pool in plain Lean: what is now, what was committed; room, get, put keep it. No program in sight.
-/
namespace Go.Proofs.Ytjihboddejaelaa
set_option linter.unusedVariables false
set_option linter.unusedSimpArgs false
open Go.RowKit
set_option linter.unusedVariables false
set_option linter.unusedSimpArgs false

/-- how many frames the log has, and may come to have without a page being turned -/
def wt (P : Pl) : Nat := P.L.fs.length + (P.ring.filter (·.dirty)).length
def Bk.put (N : Bk) (x : Nat) (s : ByteArray) : Bk := ⟨N.q, fun m => if m = x then s else N.K m⟩
structure PInv (P : Pl) (B N : Bk) : Prop where
  ok : P.ok
  log : InvQ P.L B
  pages : P.pages = N.q
  most : 8 ≤ P.most
  ring : ∀ f ∈ P.ring, f.pins = 0 ∧ f.s = N.K f.n ∧ (f.dirty = true → f.n ∈ P.turned)
  lies : ∀ n, n < N.q → (∀ f ∈ P.ring, f.n = n → f.dirty = false) → LiesF P.L.fs n (N.K n)
  same : ∀ n, n < N.q → n ∉ P.turned → n < B.q ∧ N.K n = B.K n
  le : B.q ≤ N.q

theorem mem_dropN {F : List Pf} {g : Pf} {x : Nat} (hg : g ∈ F) (hx : g.n ≠ x) : g ∈ dropN x F := List.mem_filter.2 ⟨hg, by simpa using hx⟩
theorem same_frame {F : List Pf} {f g : Pf} (h : (F.map (·.n)).Nodup) (hg : g ∈ F) (hf : f ∈ F) (e : g.n = f.n) : g = f := by
  obtain ⟨F1, F2, rfl⟩ := List.append_of_mem hf
  obtain ⟨n1, n2, _⟩ := names_split h
  rcases List.mem_append.1 hg with h1 | h1
  · exact absurd (by omega) (n1 g h1)
  · rcases List.mem_cons.1 h1 with h1 | h1
    · exact h1
    · exact absurd (by omega) (n2 g h1)
theorem drop_perm {F : List Pf} {f : Pf} (h : (F.map (·.n)).Nodup) (hf : f ∈ F) : (dropN f.n F ++ [f]).Perm F := by
  obtain ⟨F1, F2, rfl⟩ := List.append_of_mem hf
  rw [dropN_mid h]
  exact (List.perm_append_singleton f (F1 ++ F2)).trans List.perm_middle.symm
theorem dirty_perm {F G : List Pf} (h : F.Perm G) : (F.filter (·.dirty)).length = (G.filter (·.dirty)).length := (h.filter _).length_eq
theorem dirty_drop {F : List Pf} {f : Pf} (h : (F.map (·.n)).Nodup) (hf : f ∈ F) : (F.filter (·.dirty)).length = ((dropN f.n F).filter (·.dirty)).length + (if f.dirty then 1 else 0) := by
  rw [← dirty_perm (drop_perm h hf), List.filter_append, List.length_append]
  cases hd : f.dirty <;> simp [List.filter_cons, hd]

section
variable {P : Pl} {B N : Bk}
theorem PInv.up (h : PInv P B N) : ∀ f ∈ P.ring, f.n < N.q ∧ f.n ≤ 65536 := fun f hf => by
  have h1 := h.ok.pages f hf
  have h2 := h.ok.few
  have h3 := h.pages
  omega
/-- the frames in another order -/
theorem PInv.perm (h : PInv P B N) {F : List Pf} (hF : F.Perm P.ring) (s m : Int) (hok : ({ P with ring := F, hits := s, misses := m } : Pl).ok) : PInv { P with ring := F, hits := s, misses := m } B N :=
  ⟨hok, h.log, h.pages, h.most, fun f hf => h.ring f (hF.mem_iff.1 hf), fun n hn hc => h.lies n hn (fun f hf => hc f (hF.mem_iff.2 hf)), h.same, h.le⟩
theorem spill_inv (h : PInv P B N) (hw : wt P ≤ 60000) {f : Pf} (hf : f ∈ P.ring) : PInv (P.spill f).1 B N ∧ wt (P.spill f).1 ≤ wt P ∧ ((P.spill f).2 ≠ 0 → (P.spill f).1.L.D.down = true) := by
  have hok := spill_ok h.ok f
  obtain ⟨r1, r2, r3⟩ := h.ring f hf
  obtain ⟨u1, u2⟩ := h.up f hf
  have hdd := dirty_drop h.ok.names hf
  have hlen : P.L.fs.length ≤ 60000 := by unfold wt at hw; omega
  cases hd : f.dirty
  · have e : P.spill f = ({ P with ring := dropN f.n P.ring }, 0) := by unfold Pl.spill; rw [hd]; rfl
    rw [e] at hok ⊢
    rw [hd] at hdd
    refine ⟨⟨hok, h.log, h.pages, h.most, fun g hg => h.ring g ((dropN_sub _ _).subset hg), fun n hn hc => h.lies n hn fun g hg hgn => ?_, h.same, h.le⟩, ?_, fun h2 => absurd rfl h2⟩
    · by_cases hx : g.n = f.n
      · rw [same_frame h.ok.names hg hf hx]; exact hd
      · exact hc g (mem_dropN hg hx) hgn
    · show P.L.fs.length + ((dropN f.n P.ring).filter (·.dirty)).length ≤ P.L.fs.length + (P.ring.filter (·.dirty)).length
      rw [hdd]; omega
  · obtain ⟨a1, a2, a3, a4, a5⟩ := append_q h.log hlen u2 (h.ok.size f hf)
    rw [hd] at hdd
    by_cases hE : P.L.appendE f.n f.s = 0
    · obtain ⟨b1, b2, b3⟩ := a4 hE
      have e : P.spill f = ({ P with L := P.L.append f.n f.s, spills := wrap64 (P.spills + 1), ring := dropN f.n P.ring }, 0) := by unfold Pl.spill; rw [hd, if_pos rfl, if_pos hE]
      rw [e] at hok ⊢
      refine ⟨⟨hok, a1, h.pages, h.most, fun g hg => h.ring g ((dropN_sub _ _).subset hg), fun n hn hc => ?_, h.same, h.le⟩, ?_, fun h2 => absurd rfl h2⟩
      · show LiesF (P.L.append f.n f.s).fs n _
        rw [b1]
        by_cases hnf : n = f.n
        · subst hnf; rw [← r2]; exact lies_snoc
        · exact lies_other (h.lies n hn fun g hg hgn => hc g (mem_dropN hg (by omega)) hgn) hnf
      · show (P.L.append f.n f.s).fs.length + ((dropN f.n P.ring).filter (·.dirty)).length ≤ P.L.fs.length + (P.ring.filter (·.dirty)).length
        rw [b1, hdd, List.length_append, List.length_singleton, if_pos rfl]; omega
    · obtain ⟨b1, b2⟩ := a5 hE
      have e : P.spill f = ({ P with L := P.L.append f.n f.s }, P.L.appendE f.n f.s) := by unfold Pl.spill; rw [hd, if_pos rfl, if_neg hE]
      rw [e] at hok ⊢
      refine ⟨⟨hok, a1, h.pages, h.most, h.ring, fun n hn hc => ?_, h.same, h.le⟩, ?_, fun _ => b2⟩
      · show LiesF (P.L.append f.n f.s).fs n _
        rw [b1]; exact h.lies n hn hc
      · show (P.L.append f.n f.s).fs.length + _ ≤ _
        rw [b1]; exact Nat.le_refl _
theorem room_inv (h : PInv P B N) (hw : wt P ≤ 60000) : PInv P.room.1 B N ∧ wt P.room.1 ≤ wt P ∧ (P.room.2 ≠ 0 → P.room.1.L.D.down = true) := by
  unfold Pl.room
  split
  · exact ⟨h, Nat.le_refl _, fun h2 => absurd rfl h2⟩
  · rename_i hl
    split
    · rename_i hi
      exfalso
      have hm := h.most
      cases hr : P.ring with
      | nil => rw [hr] at hl; simp at hl; omega
      | cons f r =>
        have h1 := List.find?_eq_none.1 hi f (by rw [hr]; exact List.mem_cons_self ..)
        have h2 := (h.ring f (by rw [hr]; exact List.mem_cons_self ..)).1
        rw [h2] at h1
        exact h1 rfl
    · rename_i f hi
      exact spill_inv h hw (List.mem_of_find?_eq_some hi)
theorem get_inv (h : PInv P B N) (hw : wt P ≤ 60000) {x : Nat} (hx : x < N.q) : PInv (P.get x).1 B N ∧ wt (P.get x).1 ≤ wt P ∧ ((P.get x).2 ≠ 0 → (P.get x).1.L.D.down = true) := by
  have hok := get_ok h.ok x
  have hp := h.pages
  have hf := h.ok.few
  unfold Pl.get at hok ⊢
  rw [if_pos (by omega)] at hok ⊢
  split
  · rename_i f hfd
    rw [hfd] at hok
    dsimp only at hok
    obtain ⟨F1, F2, e, h1, h2⟩ := find_split hfd
    have hm : f ∈ P.ring := by rw [e]; exact List.mem_append_right _ (List.mem_cons_self ..)
    have hpm := drop_perm h.ok.names hm
    refine ⟨h.perm hpm _ _ hok, ?_, fun h2 => absurd rfl h2⟩
    show P.L.fs.length + ((dropN f.n P.ring ++ [f]).filter (·.dirty)).length ≤ P.L.fs.length + (P.ring.filter (·.dirty)).length
    rw [dirty_perm hpm]; exact Nat.le_refl _
  · rename_i hfd
    rw [hfd] at hok
    dsimp only at hok
    obtain ⟨r1, r2, r3⟩ := room_inv h hw
    obtain ⟨s1, s2, s3, s4, s5⟩ := room_same (P := P)
    by_cases hr : P.room.2 = 0
    · rw [if_pos hr] at hok ⊢
      have hno : ∀ f ∈ P.room.1.ring, f.n ≠ x := fun f hf2 => by have := find_none hfd f (s5 f hf2); omega
      generalize P.room.1 = R at *
      have hl := r1.lies x hx (fun f hf2 hfx => absurd hfx (hno f hf2))
      obtain ⟨q1, q2⟩ := reads_q r1.ok.log (by omega) hl
      unfold Pl.fetch at hok ⊢
      rw [Int.toNat_natCast] at hok ⊢
      by_cases hE : R.L.rw.readE x = 0
      · rw [if_pos hE] at hok ⊢
        obtain ⟨_, q3⟩ := q1 (rw_down hE)
        refine ⟨⟨hok, r1.log, r1.pages, r1.most, fun f hf2 => ?_, fun n hn hc => r1.lies n hn (fun f hf2 => hc f (List.mem_append_left _ hf2)), r1.same, r1.le⟩, ?_, fun h2 => absurd rfl h2⟩
        · rcases List.mem_append.1 hf2 with hf2 | hf2
          · exact r1.ring f hf2
          · rw [List.mem_singleton.1 hf2]
            exact ⟨rfl, q3, fun h2 => by cases h2⟩
        · show R.L.fs.length + ((R.ring ++ [_]).filter (fun f : Pf => f.dirty)).length ≤ _
          rw [List.filter_append, List.length_append]
          refine Nat.le_trans ?_ r2
          unfold wt
          simp [List.filter_cons]
      · rw [if_neg hE] at hok ⊢
        exact ⟨r1, r2, fun _ => q2 hE⟩
    · rw [if_neg hr] at hok ⊢
      exact ⟨r1, r2, r3⟩
theorem get_same (x : Int) : (P.get x).1.most = P.most ∧ (P.get x).1.pages = P.pages ∧ (P.get x).1.free = P.free ∧ (P.get x).1.turned = P.turned := by
  obtain ⟨s1, s2, s3, s4, s5⟩ := room_same (P := P)
  unfold Pl.get
  split
  · split
    · exact ⟨rfl, rfl, rfl, rfl⟩
    · split
      · unfold Pl.fetch
        split <;> exact ⟨s1, s2, s3, s4⟩
      · exact ⟨s1, s2, s3, s4⟩
  · exact ⟨rfl, rfl, rfl, rfl⟩
/-- the page that get answers -/
theorem get_text (h : PInv P B N) (hw : wt P ≤ 60000) {x : Nat} (hx : x < N.q) (hE : (P.get x).2 = 0) : (P.get x).1.lastF.s = N.K x ∧ P.text x = N.K x := by
  obtain ⟨g1, _, _⟩ := get_inv h hw hx
  obtain ⟨F0, f, hF, hn, _, _⟩ := get_last h.ok hE
  have hl : (P.get x).1.lastF.s = N.K x := by
    rw [(lastF_snoc hF).1]
    have := (g1.ring f (by rw [hF]; simp)).2.1
    rw [this]
    congr 1
    omega
  refine ⟨hl, ?_⟩
  unfold Pl.text
  rw [if_pos hE]; exact hl
theorem put_inv (h : PInv P B N) (hw : wt P ≤ 60000) {x : Nat} (hx : x < N.q) {s : ByteArray} (hs : s.size = 1024) :
    ((P.put x s).2 = 0 → PInv (P.put x s).1 B (N.put x s) ∧ wt (P.put x s).1 ≤ wt P + 1) ∧ ((P.put x s).2 ≠ 0 → LostQ (P.put x s).1.L.D B B) ∧ (P.put x s).1.free = P.free := by
  obtain ⟨g1, g2, g3⟩ := get_inv h hw hx
  obtain ⟨s1, s2, s3, s4⟩ := get_same (P := P) x
  have hok := put_ok h.ok x hs
  by_cases hE : (P.get x).2 = 0
  · obtain ⟨F0, f, hF, hn, _, _⟩ := get_last h.ok hE
    have e := put_eq (s := s) hE hF hn
    have hfn : f.n = x := by omega
    rw [e] at hok ⊢
    generalize (P.get x).1 = R at *
    have nm := g1.ok.names
    rw [hF] at nm
    obtain ⟨n1, _, _⟩ := names_split (F2 := []) nm
    refine ⟨fun _ => ⟨⟨hok, g1.log, g1.pages, g1.most, fun g hg => ?_, fun n hn2 hc => ?_, fun n hn2 hnt => ?_, g1.le⟩, ?_⟩, fun h2 => absurd rfl h2, s3⟩
    · show g.pins = 0 ∧ g.s = (if g.n = x then s else N.K g.n) ∧ (g.dirty = true → g.n ∈ insN f.n R.turned)
      have hin : ∀ y, y ∈ R.turned → y ∈ insN f.n R.turned := fun y hy => by
        unfold insN; split
        · exact hy
        · exact List.mem_cons_of_mem _ hy
      rcases List.mem_append.1 hg with hg | hg
      · have h1 := g1.ring g (by rw [hF]; exact List.mem_append_left _ hg)
        rw [if_neg (by have := n1 g hg; omega)]
        exact ⟨h1.1, h1.2.1, fun h2 => hin _ (h1.2.2 h2)⟩
      · rw [List.mem_singleton.1 hg]
        refine ⟨(g1.ring f (by rw [hF]; simp)).1, (if_pos hfn).symm, fun _ => ?_⟩
        show f.n ∈ insN f.n R.turned
        unfold insN; split
        · assumption
        · exact List.mem_cons_self ..
    · show LiesF R.L.fs n (if n = x then s else N.K n)
      have hnx : n ≠ x := fun e2 => by
        have : (true : Bool) = false := hc { f with s := s, dirty := true } (List.mem_append_right _ (List.mem_singleton.2 rfl)) (by show f.n = n; omega)
        cases this
      rw [if_neg hnx]
      refine g1.lies n hn2 fun g hg hgn => ?_
      rw [hF] at hg
      rcases List.mem_append.1 hg with hg | hg
      · exact hc g (List.mem_append_left _ hg) hgn
      · rw [List.mem_singleton.1 hg] at hgn; omega
    · show n < B.q ∧ (if n = x then s else N.K n) = B.K n
      have hnt2 : n ∉ insN f.n R.turned := hnt
      have hnx : n ≠ x := fun e2 => hnt2 (by
        rw [e2, ← hfn]; unfold insN; split
        · assumption
        · exact List.mem_cons_self ..)
      rw [if_neg hnx]
      refine g1.same n hn2 fun h2 => hnt2 ?_
      unfold insN; split
      · exact h2
      · exact List.mem_cons_of_mem _ h2
    · show R.L.fs.length + ((F0 ++ [_]).filter (fun f : Pf => f.dirty)).length ≤ _
      refine Nat.le_trans ?_ (Nat.succ_le_succ g2)
      unfold wt
      rw [hF, List.filter_append, List.filter_append, List.length_append, List.length_append]
      simp [List.filter_cons]
      omega
  · have e : P.put x s = P.get x := if_neg hE
    rw [e] at hok ⊢
    exact ⟨fun h2 => absurd h2 hE, fun _ => g1.log.lost (g3 hE) B, s3⟩
end

end Go.Proofs.Ytjihboddejaelaa

/-
  A pool in plain Lean: Alloc, Write, Free, Rollback keep what is now and what was committed; the chain of free pages. No program in sight.
-/
namespace Go.Proofs.Ytjihboddejaelaa
set_option linter.unusedVariables false
set_option linter.unusedSimpArgs false
open Go.RowKit
set_option linter.unusedVariables false
set_option linter.unusedSimpArgs false

/-- the free pages: the first one is told by page 0, each tells the next one -/
def ChainF (K : Nat → ByteArray) : Nat → List Nat → Prop
  | h, [] => h = 0
  | h, x :: r => h = x ∧ ∃ nx : Nat, nx ≤ 65536 ∧ K x = sealS 3 nx [] ∧ ChainF K nx r
def setT (T : Nat → Option ByteArray) (x : Nat) (s : ByteArray) : Nat → Option ByteArray := fun m => if m = x then some s else T m
def cutT (T : Nat → Option ByteArray) (x : Nat) : Nat → Option ByteArray := fun m => if m = x then none else T m
/-- pages that were written lie apart from those that are free -/
structure Good (N : Bk) (T : Nat → Option ByteArray) (free : Nat) : Prop where
  pos : 1 ≤ N.q
  text : ∀ n s, T n = some s → 0 < n ∧ n < N.q ∧ N.K n = s
  root : N.K 0 = sealS 4 free []
  fl : ∃ fl, ChainF N.K free fl ∧ fl.Nodup ∧ ∀ x ∈ fl, 0 < x ∧ x < N.q ∧ T x = none
theorem chain_put {N : Bk} {y : Nat} {s : ByteArray} : ∀ (fl : List Nat) (h : Nat), ChainF N.K h fl → y ∉ fl → ChainF (N.put y s).K h fl
  | [], h, hc, _ => hc
  | x :: r, h, ⟨h1, nx, h2, h3, h4⟩, hy => by
    refine ⟨h1, nx, h2, ?_, chain_put r nx h4 (fun h => hy (List.mem_cons_of_mem _ h))⟩
    show (if x = y then s else N.K x) = _
    rw [if_neg (fun e => hy (by rw [e]; exact List.mem_cons_self ..))]
    exact h3
theorem chain_ext {K J : Nat → ByteArray} {q : Nat} (e : ∀ n, n < q → J n = K n) : ∀ (fl : List Nat) (h : Nat), ChainF K h fl → (∀ x ∈ fl, x < q) → ChainF J h fl
  | [], h, hc, _ => hc
  | x :: r, h, ⟨h1, nx, h2, h3, h4⟩, hy => ⟨h1, nx, h2, (e x (hy x (List.mem_cons_self ..))).trans h3, chain_ext e r nx h4 (fun y h => hy y (List.mem_cons_of_mem _ h))⟩
theorem chain_le {K : Nat → ByteArray} {q : Nat} : ∀ (fl : List Nat) (h : Nat), ChainF K h fl → (∀ x ∈ fl, x < q) → h ≤ q
  | [], h, hc, _ => by have : h = 0 := hc; omega
  | x :: r, h, ⟨h1, _⟩, hy => by have := hy x (List.mem_cons_self ..); omega
theorem open_free {l : Nat} (hl : l ≤ 65536) : openP (sealS 3 l []) = some (3, l, []) := by
  have h : 1 ≤ 3 ∧ 3 ≤ 5 ∧ l ≤ 2147483647 ∧ usedN [] ≤ 1012 := ⟨by omega, by omega, by omega, by decide⟩
  exact openP_valid.2 ⟨h.1, h.2.1, h.2.2.1, h.2.2.2, (sealS_valid h).symm⟩
theorem open_meta {l : Nat} (hl : l ≤ 65536) : openP (sealS 4 l []) = some (4, l, []) := by
  have h : 1 ≤ 4 ∧ 4 ≤ 5 ∧ l ≤ 2147483647 ∧ usedN [] ≤ 1012 := ⟨by omega, by omega, by omega, by decide⟩
  exact openP_valid.2 ⟨h.1, h.2.1, h.2.2.1, h.2.2.2, (sealS_valid h).symm⟩
theorem free_len {l : Nat} (hl : l ≤ 65536) : (sealS 3 l []).size = 1024 := seal_size (K := 3) (by omega) (by omega) (by omega) (by decide)
theorem meta_len {l : Nat} (hl : l ≤ 65536) : (sealS 4 l []).size = 1024 := seal_size (K := 4) (by omega) (by omega) (by omega) (by decide)

section
variable {P : Pl} {B N : Bk} {T : Nat → Option ByteArray}
theorem PInv.withFree (h : PInv P B N) {n : Nat} (hn : n ≤ 2147483647) : PInv { P with free := n } B N :=
  ⟨⟨h.ok.log, h.ok.names, h.ok.pages, h.ok.size, h.ok.most, h.ok.full, h.ok.few, hn, h.ok.turnd, h.ok.turns⟩, h.log, h.pages, h.most, h.ring, h.lies, h.same, h.le⟩
theorem setFree_inv (h : PInv P B N) (hw : wt P ≤ 60000) (hq : 0 < N.q) {l : Nat} (hl : l ≤ 65536) (hr : N.K 0 = sealS 4 l []) {n : Nat} (hn : n ≤ 65536) :
    ((P.setFree n).2 = 0 → PInv (P.setFree n).1 B (N.put 0 (sealS 4 n [])) ∧ wt (P.setFree n).1 ≤ wt P + 1 ∧ (P.setFree n).1.free = n) ∧ ((P.setFree n).2 ≠ 0 → LostQ (P.setFree n).1.L.D B B) := by
  obtain ⟨g1, g2, g3⟩ := get_inv h hw hq
  by_cases hE : (P.get 0).2 = 0
  · have ht := (get_text h hw hq hE).1
    rw [hr] at ht
    have hop : openP (P.get 0).1.lastF.s = some (4, l, []) := by rw [show ((0 : Nat) : Int) = 0 from rfl] at ht; rw [ht]; exact open_meta hl
    obtain ⟨p1, p2, p3⟩ := put_inv g1 (Nat.le_trans g2 hw) hq (s := sealS 4 n []) (meta_len hn)
    rw [show ((0 : Nat) : Int) = 0 from rfl] at p1 p2 g2
    have e : P.setFree n = if ((P.get 0).1.put 0 (sealS 4 n [])).2 = 0 then ({ ((P.get 0).1.put 0 (sealS 4 n [])).1 with free := n }, 0) else (P.get 0).1.put 0 (sealS 4 n []) := by
      unfold Pl.setFree
      rw [if_pos hE, hop]
    rw [e]
    by_cases hE2 : ((P.get 0).1.put 0 (sealS 4 n [])).2 = 0
    · rw [if_pos hE2]
      obtain ⟨a1, a2⟩ := p1 hE2
      exact ⟨fun _ => ⟨a1.withFree (by omega), Nat.le_trans a2 (Nat.succ_le_succ g2), rfl⟩, fun h2 => absurd rfl h2⟩
    · rw [if_neg hE2]
      exact ⟨fun h2 => absurd h2 hE2, fun _ => p2 hE2⟩
  · have e : P.setFree n = P.get 0 := if_neg hE
    rw [e]
    exact ⟨fun h2 => absurd h2 hE, fun _ => g1.log.lost (g3 hE) B⟩
theorem grow_inv (h : PInv P B N) (hw : wt P ≤ 60000) (hq : N.q ≤ 60000) :
    (P.grow.2 = 0 → PInv P.grow.1 B ⟨N.q + 1, fun m => if m = N.q then blankS else N.K m⟩ ∧ wt P.grow.1 ≤ wt P + 1 ∧ P.grow.1.free = P.free) ∧ (P.grow.2 ≠ 0 → LostQ P.grow.1.L.D B B) := by
  have hok := grow_ok h.ok (by have := h.pages; omega)
  obtain ⟨r1, r2, r3⟩ := room_inv h hw
  obtain ⟨s1, s2, s3, s4, s5⟩ := room_same (P := P)
  unfold Pl.grow at hok ⊢
  by_cases hr : P.room.2 = 0
  · rw [if_pos hr] at hok ⊢
    generalize P.room.1 = R at *
    have hp := r1.pages
    rw [hp] at hok ⊢
    refine ⟨fun _ => ⟨⟨hok, r1.log, rfl, r1.most, fun g hg => ?_, fun n hn hc => ?_, fun n hn hnt => ?_, Nat.le_succ_of_le r1.le⟩, ?_, s3⟩, fun h2 => absurd rfl h2⟩
    · show g.pins = 0 ∧ g.s = (if g.n = N.q then blankS else N.K g.n) ∧ (g.dirty = true → g.n ∈ insN N.q R.turned)
      rcases List.mem_append.1 hg with hg | hg
      · have h1 := r1.ring g hg
        have h2 := r1.up g hg
        rw [if_neg (by omega)]
        refine ⟨h1.1, h1.2.1, fun h3 => ?_⟩
        unfold insN; split
        · exact h1.2.2 h3
        · exact List.mem_cons_of_mem _ (h1.2.2 h3)
      · rw [List.mem_singleton.1 hg]
        refine ⟨rfl, (if_pos rfl).symm, fun _ => ?_⟩
        show N.q ∈ insN N.q R.turned
        unfold insN; split
        · assumption
        · exact List.mem_cons_self ..
    · have hn2 : n < N.q + 1 := hn
      show LiesF R.L.fs n (if n = N.q then blankS else N.K n)
      have hnq : n ≠ N.q := fun e => by
        have : (true : Bool) = false := hc ⟨N.q, blankS, 0, true⟩ (List.mem_append_right _ (List.mem_singleton.2 rfl)) e.symm
        cases this
      rw [if_neg hnq]
      exact r1.lies n (by omega) fun g hg => hc g (List.mem_append_left _ hg)
    · have hn2 : n < N.q + 1 := hn
      have hnt2 : n ∉ insN N.q R.turned := hnt
      show n < B.q ∧ (if n = N.q then blankS else N.K n) = B.K n
      have hnq : n ≠ N.q := fun e => hnt2 (by
        rw [e]; unfold insN; split
        · assumption
        · exact List.mem_cons_self ..)
      rw [if_neg hnq]
      refine r1.same n (by omega) fun h2 => hnt2 ?_
      unfold insN; split
      · exact h2
      · exact List.mem_cons_of_mem _ h2
    · show R.L.fs.length + ((R.ring ++ [_]).filter (fun f : Pf => f.dirty)).length ≤ _
      refine Nat.le_trans ?_ (Nat.succ_le_succ r2)
      unfold wt
      rw [List.filter_append, List.length_append]
      simp [List.filter_cons]
      omega
  · rw [if_neg hr]
    exact ⟨fun h2 => absurd h2 hr, fun _ => r1.log.lost (r3 hr) B⟩
/-- Alloc: page n, apart from all that was written -/
theorem alloc_inv (h : PInv P B N) (g : Good N T P.free) (hw : wt P ≤ 50000) (hq : N.q ≤ 60000) :
    (P.alloc.2 = 0 → ∃ N', PInv P.alloc.1 B N' ∧ wt P.alloc.1 ≤ wt P + 2 ∧ N'.q = max N.q (P.allocN + 1) ∧ 0 < P.allocN ∧ P.allocN < N'.q ∧ ∀ s, Good (N'.put P.allocN s) (setT T P.allocN s) P.alloc.1.free) ∧ (P.alloc.2 ≠ 0 → LostQ P.alloc.1.L.D B B) := by
  have hp := h.pages
  obtain ⟨fl, f1, f2, f3⟩ := g.fl
  have gp := g.pos
  by_cases h0 : P.free = 0
  · have e : P.alloc = P.grow := (if_pos h0).trans (if_neg (by omega))
    have en : P.allocN = N.q := (if_pos h0).trans hp
    obtain ⟨a1, a2⟩ := grow_inv h (by omega) hq
    rw [e, en]
    refine ⟨fun hE => ?_, a2⟩
    obtain ⟨b1, b2, b3⟩ := a1 hE
    refine ⟨_, b1, by omega, by show N.q + 1 = max N.q (N.q + 1); omega, by omega, by show N.q < N.q + 1; omega, fun s => ?_⟩
    have hK : ∀ m, m < N.q → ((Bk.mk (N.q + 1) fun m => if m = N.q then blankS else N.K m).put N.q s).K m = N.K m := fun m hm => by
      show (if m = N.q then s else if m = N.q then blankS else N.K m) = _
      rw [if_neg (by omega), if_neg (by omega)]
    refine ⟨by show 1 ≤ N.q + 1; omega, fun n t hn => ?_, ?_, fl, ?_, f2, fun x hx => ?_⟩
    · unfold setT at hn
      split at hn
      · rename_i e2
        cases hn
        rw [e2]
        exact ⟨by omega, by show N.q < N.q + 1; omega, if_pos rfl⟩
      · obtain ⟨t1, t2, t3⟩ := g.text n t hn
        exact ⟨t1, by show n < N.q + 1; omega, (hK n t2).trans t3⟩
    · rw [b3, hK 0 (by omega)]; exact g.root
    · rw [b3]; exact chain_ext hK fl _ f1 (fun x hx => (f3 x hx).2.1)
    · obtain ⟨x1, x2, x3⟩ := f3 x hx
      refine ⟨x1, by show x < N.q + 1; omega, ?_⟩
      unfold setT
      rw [if_neg (by omega)]; exact x3
  · cases fl with
    | nil => exact absurd f1 h0
    | cons x r =>
      obtain ⟨hx, nx, n1, n2, n3⟩ := f1
      obtain ⟨x1, x2, x3⟩ := f3 x (List.mem_cons_self ..)
      obtain ⟨d1, d2⟩ := List.nodup_cons.1 f2
      have e : P.alloc = P.reuse := if_neg h0
      have en : P.allocN = P.free := if_neg h0
      rw [e, en]
      unfold Pl.reuse
      rw [hx]
      obtain ⟨g1, g2, g3⟩ := get_inv h (by omega) x2
      by_cases hE : (P.get x).2 = 0
      · rw [if_pos hE, (get_text h (by omega) x2 hE).1, n2, open_free n1]
        dsimp only
        obtain ⟨sf1, sf2⟩ := setFree_inv g1 (by omega) (by omega) (by
          have := chain_le (x :: r) P.free ⟨hx, nx, n1, n2, n3⟩ (fun y hy => (f3 y hy).2.1)
          omega) g.root n1
        by_cases hE2 : ((P.get x).1.setFree nx).2 = 0
        · rw [if_pos hE2]
          obtain ⟨t1, t2, t3⟩ := sf1 hE2
          generalize ((P.get x).1.setFree nx).1 = R at *
          obtain ⟨p1, p2, p3⟩ := put_inv t1 (by omega) (x := x) x2 (s := blankS) (free_len (l := 0) (by omega))
          refine ⟨fun hE3 => ?_, p2⟩
          obtain ⟨q1, q2⟩ := p1 hE3
          refine ⟨_, q1, by omega, by show N.q = max N.q (x + 1); omega, x1, x2, fun s => ?_⟩
          have hK : ∀ m, m ≠ 0 → m ≠ x → (((N.put 0 (sealS 4 nx [])).put x blankS).put x s).K m = N.K m := fun m hm hm2 => by
            show (if m = x then s else if m = x then blankS else if m = 0 then _ else N.K m) = _
            rw [if_neg hm2, if_neg hm2, if_neg hm]
          refine ⟨gp, fun n t hn => ?_, ?_, r, ?_, d2, fun y hy => ?_⟩
          · unfold setT at hn
            split at hn
            · rename_i e2
              cases hn
              rw [e2]
              exact ⟨x1, x2, if_pos rfl⟩
            · rename_i e2
              obtain ⟨u1, u2, u3⟩ := g.text n t hn
              exact ⟨u1, u2, (hK n (by omega) e2).trans u3⟩
          · rw [p3, t3]
            show (if 0 = x then s else if 0 = x then blankS else if 0 = 0 then _ else N.K 0) = _
            rw [if_neg (by omega), if_neg (by omega)]; rfl
          · rw [p3, t3]
            refine chain_put r nx (chain_put r nx (chain_put r nx n3 fun h2 => ?_) d1) d1
            have := (f3 0 (List.mem_cons_of_mem _ h2)).1
            omega
          · obtain ⟨y1, y2, y3⟩ := f3 y (List.mem_cons_of_mem _ hy)
            refine ⟨y1, y2, ?_⟩
            unfold setT
            rw [if_neg (fun e2 => d1 (by rw [← e2]; exact hy))]; exact y3
        · rw [if_neg hE2]
          exact ⟨fun h2 => absurd h2 hE2, fun _ => sf2 hE2⟩
      · rw [if_neg hE]
        exact ⟨fun h2 => absurd h2 hE, fun _ => g1.log.lost (g3 hE) B⟩
theorem write_inv {x : Nat} (h : PInv P B N) (g : ∀ s, Good (N.put x s) (setT T x s) P.free) (hw : wt P ≤ 60000) (hx : x < N.q) (h0 : 0 < x) {s : ByteArray} (hs : s.size = 1024) :
    ((P.write x s).2 = 0 → PInv (P.write x s).1 B (N.put x s) ∧ wt (P.write x s).1 ≤ wt P + 1 ∧ Good (N.put x s) (setT T x s) (P.write x s).1.free) ∧ ((P.write x s).2 ≠ 0 → LostQ (P.write x s).1.L.D B B) := by
  have e : P.write x s = P.put x s := if_neg (by omega)
  obtain ⟨p1, p2, p3⟩ := put_inv h hw hx hs
  rw [e]
  exact ⟨fun hE => ⟨(p1 hE).1, (p1 hE).2, by rw [p3]; exact g s⟩, p2⟩
theorem good_write {free : Nat} (g : Good N T free) {x : Nat} {t : ByteArray} (hx : T x = some t) (s : ByteArray) : Good (N.put x s) (setT T x s) free := by
  obtain ⟨x1, x2, x3⟩ := g.text x t hx
  obtain ⟨fl, f1, f2, f3⟩ := g.fl
  have hno : x ∉ fl := fun h => by have := (f3 x h).2.2; rw [hx] at this; cases this
  refine ⟨g.pos, fun n u hn => ?_, ?_, fl, chain_put fl _ f1 hno, f2, fun y hy => ?_⟩
  · unfold setT at hn
    show 0 < n ∧ n < N.q ∧ (if n = x then s else N.K n) = u
    split at hn
    · rename_i e2
      cases hn
      rw [e2]
      exact ⟨x1, x2, if_pos rfl⟩
    · rename_i e2
      rw [if_neg e2]; exact g.text n u hn
  · show (if 0 = x then s else N.K 0) = _
    rw [if_neg (by omega)]; exact g.root
  · obtain ⟨y1, y2, y3⟩ := f3 y hy
    refine ⟨y1, y2, ?_⟩
    unfold setT
    rw [if_neg (fun e2 => hno (by rw [← e2]; exact hy))]; exact y3
theorem free_inv (h : PInv P B N) (g : Good N T P.free) (hw : wt P ≤ 50000) (hq : N.q ≤ 60000) {x : Nat} {t : ByteArray} (hx : T x = some t) :
    ((P.freeP x).2 = 0 → ∃ N', PInv (P.freeP x).1 B N' ∧ wt (P.freeP x).1 ≤ wt P + 2 ∧ N'.q = N.q ∧ Good N' (cutT T x) (P.freeP x).1.free) ∧ ((P.freeP x).2 ≠ 0 → LostQ (P.freeP x).1.L.D B B) := by
  obtain ⟨x1, x2, x3⟩ := g.text x t hx
  obtain ⟨fl, f1, f2, f3⟩ := g.fl
  have gp := g.pos
  have hno : x ∉ fl := fun h => by have := (f3 x h).2.2; rw [hx] at this; cases this
  have hle := chain_le fl P.free f1 (fun y hy => (f3 y hy).2.1)
  obtain ⟨p1, p2, p3⟩ := put_inv h (by omega) x2 (s := sealS 3 P.free []) (free_len (by omega))
  unfold Pl.freeP
  rw [if_neg (by omega), Int.toNat_natCast]
  by_cases hE : (P.put x (sealS 3 P.free [])).2 = 0
  · rw [if_pos hE]
    obtain ⟨a1, a2⟩ := p1 hE
    obtain ⟨s1, s2⟩ := setFree_inv a1 (by omega) (show 0 < N.q by omega) (l := P.free) (by omega) (by show (if 0 = x then _ else N.K 0) = _; rw [if_neg (by omega)]; exact g.root) (n := x) (by omega)
    refine ⟨fun hE2 => ?_, s2⟩
    obtain ⟨b1, b2, b3⟩ := s1 hE2
    refine ⟨_, b1, by omega, rfl, ?_⟩
    rw [b3]
    have hK : ∀ m, m ≠ 0 → m ≠ x → ((N.put x (sealS 3 P.free [])).put 0 (sealS 4 x [])).K m = N.K m := fun m hm hm2 => by
      show (if m = 0 then _ else if m = x then _ else N.K m) = _
      rw [if_neg hm, if_neg hm2]
    refine ⟨gp, fun n u hn => ?_, rfl, x :: fl, ⟨rfl, P.free, by omega, ?_, ?_⟩, List.nodup_cons.2 ⟨hno, f2⟩, fun y hy => ?_⟩
    · unfold cutT at hn
      split at hn
      · cases hn
      · rename_i e2
        obtain ⟨u1, u2, u3⟩ := g.text n u hn
        exact ⟨u1, u2, (hK n (by omega) e2).trans u3⟩
    · show (if x = 0 then _ else if x = x then _ else N.K x) = _
      rw [if_neg (by omega), if_pos rfl]
    · refine chain_put fl _ (chain_put fl _ f1 hno) fun h2 => ?_
      have := (f3 0 h2).1
      omega
    · unfold cutT
      rcases List.mem_cons.1 hy with hy | hy
      · rw [hy, if_pos rfl]; exact ⟨x1, x2, rfl⟩
      · obtain ⟨y1, y2, y3⟩ := f3 y hy
        exact ⟨y1, y2, by split; rfl; exact y3⟩
  · rw [if_neg hE]
    exact ⟨fun h2 => absurd h2 hE, fun _ => p2 hE⟩
end

end Go.Proofs.Ytjihboddejaelaa

/-
  A pool in plain Lean: Commit, Rollback, Open; a pool that is only read. No program in sight.
-/
namespace Go.Proofs.Ytjihboddejaelaa
set_option linter.unusedVariables false
set_option linter.unusedSimpArgs false
open Go.RowKit
set_option linter.unusedVariables false
set_option linter.unusedSimpArgs false

def Pl.flushed (P : Pl) : Pl × Int := if dirtyN P.ring = [] then (if (P.get 0).2 = 0 then Pl.flush [0] (P.get 0).1 else P.get 0) else Pl.flush (dirtyN P.ring) P
theorem commit_flushed (P : Pl) : P.commit = if P.turned = [] then (P, 0) else Pl.told P.flushed := by
  unfold Pl.commit Pl.flushed
  by_cases h1 : P.turned = []
  · rw [if_pos h1, if_pos h1]
  · rw [if_neg h1, if_neg h1]
    by_cases h2 : dirtyN P.ring = []
    · rw [if_pos h2, if_pos h2]
      by_cases h3 : (P.get 0).2 = 0
      · rw [if_pos h3, if_pos h3]
      · rw [if_neg h3, if_neg h3]
        exact (if_neg h3).symm
    · rw [if_neg h2, if_neg h2]
theorem clean_mem {F : List Pf} {n : Nat} {g : Pf} (h : g ∈ cleanN n F) : ∃ f ∈ F, g.n = f.n ∧ g.s = f.s ∧ g.pins = f.pins ∧ (g.dirty = true → f.dirty = true ∧ f.n ≠ n) := by
  obtain ⟨f, hf, e⟩ := List.mem_map.1 h
  refine ⟨f, hf, ?_⟩
  split at e
  · rw [← e]; exact ⟨rfl, rfl, rfl, fun h => by cases h⟩
  · rename_i hn; rw [← e]; exact ⟨rfl, rfl, rfl, fun h => ⟨h, hn⟩⟩
theorem mem_clean {F : List Pf} {n : Nat} {f : Pf} (h : f ∈ F) (hn : f.n ≠ n) : f ∈ cleanN n F := List.mem_map.2 ⟨f, h, if_neg hn⟩
section
variable {B N : Bk} {P : Pl} {T : Nat → Option ByteArray}
theorem PInv.textN (h : PInv P B N) {n : Nat} (hn : n ∈ P.ring.map (·.n)) : textN n P.ring = N.K n ∧ (N.K n).size = 1024 ∧ n < N.q ∧ n ≤ 65536 := by
  obtain ⟨f, hf, rfl⟩ := List.mem_map.1 hn
  have h1 := h.ring f hf
  have h2 := h.up f hf
  have h3 := h.ok.size f hf
  obtain ⟨F1, F2, e⟩ := List.append_of_mem hf
  have nm := h.ok.names
  rw [e] at nm
  refine ⟨?_, by rw [← h1.2.1]; exact h3, h2.1, h2.2⟩
  rw [e, text_mid nm]; exact h1.2.1
theorem flush_inv : ∀ (ns : List Nat) (P : Pl), ns ≠ [] → PInv P B N → (∀ f ∈ P.ring, f.dirty = true → f.n ∈ ns) → (∀ n ∈ ns, n ∈ P.ring.map (·.n)) → P.L.fs.length + ns.length ≤ 60000 → 1 ≤ N.q →
    ((Pl.flush ns P).2 = 0 → PInv (Pl.flush ns P).1 N N ∧ (∀ f ∈ (Pl.flush ns P).1.ring, f.dirty = false) ∧ (Pl.flush ns P).1.L.fs.length = P.L.fs.length + ns.length ∧ (Pl.flush ns P).1.free = P.free ∧ (Pl.flush ns P).1.L.D.down = false) ∧ ((Pl.flush ns P).2 ≠ 0 → LostQ (Pl.flush ns P).1.L.D B N)
  | [], P, h, _, _, _, _, _ => absurd rfl h
  | [n], P, _, h, hd, hm, hw, hq => by
    obtain ⟨t1, t2, t3, t4⟩ := h.textN (hm n (List.mem_singleton.2 rfl))
    have hC : HoldsQ N (P.L.fs ++ [⟨n, N.K n⟩]) P.pages := ⟨h.pages, fun m hm2 => by
      by_cases e : m = n
      · rw [e]; exact lies_snoc
      · refine lies_other (h.lies m hm2 fun f hf hfm => ?_) e
        cases hdf : f.dirty
        · rfl
        · have := List.mem_singleton.1 (hd f hf hdf)
          omega⟩
    have hps := h.pages
    have hfew := h.ok.few
    obtain ⟨c1, c2⟩ := commit_q h.log (by simp at hw; omega) t4 (p := P.pages) ⟨by omega, hfew⟩ t2 hC
    unfold Pl.flush
    rw [t1]
    by_cases hE : P.L.commitE n (N.K n) P.pages = 0
    · rw [if_pos hE]
      obtain ⟨a1, a2, a3⟩ := c1 hE
      have hcl := h.ok.clean (L' := P.L.commit n (N.K n) P.pages) (commit_ok h.ok.log _ _ _) n
      refine ⟨fun _ => ⟨⟨hcl, a1, h.pages, h.most, fun g hg => ?_, fun m hm2 hc => ?_, fun m hm2 _ => ⟨hm2, rfl⟩, Nat.le_refl _⟩, fun g hg => ?_, ?_, rfl, a3⟩, fun h2 => absurd rfl h2⟩
      · obtain ⟨f, hf, e1, e2, e3, e4⟩ := clean_mem hg
        have h1 := h.ring f hf
        exact ⟨e3.trans h1.1, by rw [e1, e2]; exact h1.2.1, fun h2 => by rw [e1]; exact h1.2.2 (e4 h2).1⟩
      · show LiesF (P.L.commit n (N.K n) P.pages).fs m _
        rw [a2]; exact hC.2 m hm2
      · obtain ⟨f, hf, e1, e2, e3, e4⟩ := clean_mem hg
        cases hdg : g.dirty
        · rfl
        · exact absurd (List.mem_singleton.1 (hd f hf (e4 hdg).1)) (e4 hdg).2
      · show (P.L.commit n (N.K n) P.pages).fs.length = _
        rw [a2]; simp
    · rw [if_neg hE]
      exact ⟨fun h2 => absurd h2 hE, fun _ => c2 hE⟩
  | n :: m :: r, P, _, h, hd, hm, hw, hq => by
    obtain ⟨t1, t2, t3, t4⟩ := h.textN (hm n (List.mem_cons_self ..))
    obtain ⟨a1, a2, a3, a4, a5⟩ := append_q h.log (by simp at hw; omega) t4 t2
    unfold Pl.flush
    rw [t1]
    by_cases hE : P.L.appendE n (N.K n) = 0
    · rw [if_pos hE]
      obtain ⟨b1, b2, b3⟩ := a4 hE
      have hcl := h.ok.clean (L' := P.L.append n (N.K n)) (append_ok h.ok.log _ _) n
      have hI : PInv { P with L := P.L.append n (N.K n), ring := cleanN n P.ring } B N := ⟨hcl, a1, h.pages, h.most, fun g hg => by
          obtain ⟨f, hf, e1, e2, e3, e4⟩ := clean_mem hg
          have h1 := h.ring f hf
          exact ⟨e3.trans h1.1, by rw [e1, e2]; exact h1.2.1, fun h2 => by rw [e1]; exact h1.2.2 (e4 h2).1⟩, fun k hk hc => by
          show LiesF (P.L.append n (N.K n)).fs k _
          rw [b1]
          by_cases e : k = n
          · rw [e]; exact lies_snoc
          · exact lies_other (h.lies k hk fun f hf hfk => hc f (mem_clean hf (by omega)) hfk) e, h.same, h.le⟩
      have ih := flush_inv (m :: r) { P with L := P.L.append n (N.K n), ring := cleanN n P.ring } (by simp) hI (fun g hg hdg => by
          obtain ⟨f, hf, e1, e2, e3, e4⟩ := clean_mem hg
          obtain ⟨f1, f2⟩ := e4 hdg
          rcases List.mem_cons.1 (hd f hf f1) with h2 | h2
          · exact absurd h2 f2
          · rw [e1]; exact h2) (fun k hk => by
          show k ∈ (cleanN n P.ring).map (·.n)
          rw [clean_names]; exact hm k (List.mem_cons_of_mem _ hk)) (by
          show (P.L.append n (N.K n)).fs.length + _ ≤ _
          rw [b1]; simp at hw ⊢; omega) hq
      refine ⟨fun h2 => ?_, ih.2⟩
      obtain ⟨i1, i2, i3, i4, i5⟩ := ih.1 h2
      refine ⟨i1, i2, i3.trans ?_, i4, i5⟩
      show (P.L.append n (N.K n)).fs.length + _ = _
      rw [b1]; simp; omega
    · rw [if_neg hE]
      exact ⟨fun h2 => absurd h2 hE, fun _ => a1.lost (a5 hE).2 N⟩
theorem get_dirty {P : Pl} (x : Int) : ∀ f ∈ (P.get x).1.ring, f.dirty = true → f ∈ P.ring := by
  obtain ⟨s1, s2, s3, s4, s5⟩ := room_same (P := P)
  unfold Pl.get
  split
  · split
    · rename_i f hfd
      intro g hg _
      rcases List.mem_append.1 hg with hg | hg
      · exact (dropN_sub _ _).subset hg
      · rw [List.mem_singleton.1 hg]
        exact List.mem_of_find?_eq_some hfd
    · split
      · unfold Pl.fetch
        split
        · intro g hg hd
          rcases List.mem_append.1 hg with hg | hg
          · exact s5 g hg
          · rw [List.mem_singleton.1 hg] at hd; cases hd
        · exact fun g hg _ => s5 g hg
      · exact fun g hg _ => s5 g hg
  · exact fun g hg _ => hg
theorem dirtyN_mem {F : List Pf} {n : Nat} : n ∈ dirtyN F ↔ ∃ f ∈ F, f.dirty = true ∧ f.n = n := by
  unfold dirtyN
  rw [List.mem_mergeSort, List.mem_map]
  constructor
  · rintro ⟨f, hf, e⟩
    exact ⟨f, (List.mem_filter.1 hf).1, (List.mem_filter.1 hf).2, e⟩
  · rintro ⟨f, hf, hd, e⟩
    exact ⟨f, List.mem_filter.2 ⟨hf, hd⟩, e⟩
theorem flushed_inv (h : PInv P B N) (hw : wt P ≤ 50000) (hq : 1 ≤ N.q) :
    (P.flushed.2 = 0 → PInv P.flushed.1 N N ∧ (∀ f ∈ P.flushed.1.ring, f.dirty = false) ∧ P.flushed.1.L.fs.length ≤ wt P + 1 ∧ P.flushed.1.free = P.free ∧ P.flushed.1.L.D.down = false) ∧ (P.flushed.2 ≠ 0 → LostQ P.flushed.1.L.D B N) := by
  unfold Pl.flushed
  by_cases h1 : dirtyN P.ring = []
  · rw [if_pos h1]
    have hnd : ∀ f ∈ P.ring, f.dirty = true → False := fun f hf hd => by
      have := dirtyN_mem.2 ⟨f, hf, hd, rfl⟩
      rw [h1] at this; cases this
    obtain ⟨g1, g2, g3⟩ := get_inv h (by omega) hq
    rw [show ((0 : Nat) : Int) = 0 from rfl] at g1 g2 g3
    obtain ⟨s1, s2, s3, s4⟩ := get_same (P := P) 0
    by_cases hE : (P.get 0).2 = 0
    · rw [if_pos hE]
      obtain ⟨F0, f, hF, hn, _, _⟩ := get_last h.ok hE
      obtain ⟨i1, i2⟩ := flush_inv [0] (P.get 0).1 (by simp) g1 (fun f hf hd => absurd (hnd f (get_dirty 0 f hf hd) hd) id) (fun n hn2 => by
        rw [List.mem_singleton.1 hn2, hF]
        exact List.mem_map.2 ⟨f, List.mem_append_right _ (List.mem_singleton.2 rfl), by omega⟩) (by unfold wt at g2 hw; simp; omega) hq
      refine ⟨fun h2 => ?_, i2⟩
      obtain ⟨j1, j2, j3, j4, j5⟩ := i1 h2
      refine ⟨j1, j2, ?_, j4.trans s3, j5⟩
      rw [j3]
      unfold wt at g2 ⊢
      simp; omega
    · rw [if_neg hE]
      exact ⟨fun h2 => absurd h2 hE, fun _ => g1.log.lost (g3 hE) N⟩
  · rw [if_neg h1]
    have hl : (dirtyN P.ring).length = (P.ring.filter (·.dirty)).length := by unfold dirtyN; rw [List.length_mergeSort, List.length_map]
    obtain ⟨i1, i2⟩ := flush_inv (dirtyN P.ring) P h1 h (fun f hf hd => dirtyN_mem.2 ⟨f, hf, hd, rfl⟩) (fun n hn => by
      obtain ⟨f, hf, _, e⟩ := dirtyN_mem.1 hn
      exact List.mem_map.2 ⟨f, hf, e⟩) (by rw [hl]; unfold wt at hw; omega) hq
    refine ⟨fun h2 => ?_, i2⟩
    obtain ⟨j1, j2, j3, j4, j5⟩ := i1 h2
    refine ⟨j1, j2, ?_, j4, j5⟩
    rw [j3, hl]; unfold wt; omega
theorem no_dirty {F : List Pf} (h : ∀ f ∈ F, f.dirty = false) : F.filter (·.dirty) = [] := List.filter_eq_nil_iff.2 fun f hf => by rw [h f hf]; decide
theorem PInv.noTurned {P : Pl} {N : Bk} (h : PInv P N N) (hd : ∀ f ∈ P.ring, f.dirty = false) : PInv { P with turned := [] } N N :=
  ⟨⟨h.ok.log, h.ok.names, h.ok.pages, h.ok.size, h.ok.most, h.ok.full, h.ok.few, h.ok.link, List.nodup_nil, fun x hx => by cases hx⟩, h.log, h.pages, h.most, fun f hf => ⟨(h.ring f hf).1, (h.ring f hf).2.1, fun h2 => by rw [hd f hf] at h2; cases h2⟩, h.lies, fun n hn _ => ⟨hn, rfl⟩, Nat.le_refl _⟩
theorem commit_inv2 (h : PInv P B N) (hw : wt P ≤ 900) (hq : 1 ≤ N.q) : (P.commit.2 = 0 → PInv P.commit.1 N N ∧ wt P.commit.1 ≤ wt P + 1 ∧ P.commit.1.free = P.free) ∧ (P.commit.2 ≠ 0 → LostQ P.commit.1.L.D B N) := by
  rw [commit_flushed]
  by_cases h1 : P.turned = []
  · rw [if_pos h1]
    refine ⟨fun _ => ⟨?_, Nat.le_succ _, rfl⟩, fun h2 => absurd rfl h2⟩
    have hs : ∀ n, n < N.q → n < B.q ∧ N.K n = B.K n := fun n hn => h.same n hn (by rw [h1]; simp)
    have he : B.q = N.q := Nat.le_antisymm h.le (Nat.le_of_not_lt fun h2 => by have := (hs B.q h2).1; omega)
    exact ⟨h.ok, ⟨h.log.safe, h.log.kept.1.trans he, fun n hn => by rw [(hs n hn).2]; exact h.log.kept.2 n (by omega)⟩, h.pages, h.most, h.ring, h.lies, fun n hn _ => ⟨hn, rfl⟩, Nat.le_refl _⟩
  · rw [if_neg h1]
    obtain ⟨i1, i2⟩ := flushed_inv h (by omega) hq
    generalize P.flushed = R at *
    unfold Pl.told
    by_cases hE : R.2 = 0
    · rw [if_pos hE]
      obtain ⟨j1, j2, j3, j4, j5⟩ := i1 hE
      rw [if_neg (by omega)]
      refine ⟨fun _ => ⟨j1.noTurned j2, ?_, j4⟩, fun h2 => absurd rfl h2⟩
      show R.1.L.fs.length + (R.1.ring.filter (·.dirty)).length ≤ _
      rw [no_dirty j2]; simpa using j3
    · rw [if_neg hE]
      exact ⟨fun h2 => absurd h2 hE, fun _ => i2 hE⟩
theorem rolled_inv (h : PInv P B N) : PInv P.rolled B B ∧ wt P.rolled ≤ wt P := by
  have hk := h.log.kept.1
  have hle := h.le
  have hps := h.pages
  have hfew := h.ok.few
  have hfr : ∀ f ∈ P.rolled.ring, f ∈ P.ring ∧ f.n ∉ P.turned := fun f hf => by
    have h1 := List.mem_filter.1 hf
    exact ⟨h1.1, by simpa using h1.2⟩
  have hbk : ∀ f ∈ P.rolled.ring, f.n < B.q ∧ N.K f.n = B.K f.n := fun f hf => h.same f.n (h.up f (hfr f hf).1).1 (hfr f hf).2
  have hcl : ∀ f ∈ P.rolled.ring, f.dirty = false := fun f hf => by
    cases hd : f.dirty
    · rfl
    · exact absurd ((h.ring f (hfr f hf).1).2.2 hd) (hfr f hf).2
  have hsub : P.rolled.ring.Sublist P.ring := List.filter_sublist
  refine ⟨⟨⟨back_ok h.ok.log, (hsub.map _).nodup h.ok.names, fun f hf => ?_, fun f hf => h.ok.size f (hfr f hf).1, h.ok.most, Nat.le_trans hsub.length_le h.ok.full, ?_, h.ok.link, List.nodup_nil, fun x hx => by cases hx⟩, back_q h.log, hk, h.most, fun f hf => ?_, fun n hn _ => h.log.kept.2 n hn, fun n hn _ => ⟨hn, rfl⟩, Nat.le_refl _⟩, ?_⟩
  · show f.n < P.L.pages
    rw [hk]; exact (hbk f hf).1
  · show P.L.pages ≤ 65536
    omega
  · obtain ⟨r1, r2, r3⟩ := h.ring f (hfr f hf).1
    exact ⟨r1, r2.trans (hbk f hf).2, fun h2 => by rw [hcl f hf] at h2; cases h2⟩
  · show (P.L.fs.take P.L.kept).length + (P.rolled.ring.filter (·.dirty)).length ≤ _
    rw [no_dirty hcl, List.length_take]
    unfold wt
    simp; omega
theorem rollback_inv (h : PInv P B N) {fB : Nat} (g : Good B T fB) (hw : wt P ≤ 50000) (hq : B.q ≤ 60000) : (P.rollback.2 = 0 → PInv P.rollback.1 B B ∧ wt P.rollback.1 ≤ wt P ∧ P.rollback.1.free = fB) ∧ (P.rollback.2 ≠ 0 → LostQ P.rollback.1.L.D B B) := by
  obtain ⟨r1, r2⟩ := rolled_inv h
  have e : P.rollback = P.rolled.root := by
    unfold Pl.rollback
    rw [if_neg]
    intro ha
    obtain ⟨f, hf, h2⟩ := List.any_eq_true.1 ha
    have h1 := (h.ring f hf).1
    simp [h1] at h2
  rw [e]
  generalize P.rolled = R at *
  have gp := g.pos
  obtain ⟨fl, f1, _, f3⟩ := g.fl
  have hle := chain_le fl fB f1 (fun y hy => (f3 y hy).2.1)
  obtain ⟨g1, g2, g3⟩ := get_inv r1 (by omega) gp
  rw [show ((0 : Nat) : Int) = 0 from rfl] at g1 g2 g3
  unfold Pl.root
  by_cases hE : (R.get 0).2 = 0
  · have ht := (get_text r1 (by omega) gp hE).1
    rw [show ((0 : Nat) : Int) = 0 from rfl, g.root] at ht
    rw [if_pos hE, ht, open_meta (by omega)]
    exact ⟨fun _ => ⟨g1.withFree (show fB ≤ 2147483647 by omega), Nat.le_trans g2 r2, rfl⟩, fun h2 => absurd rfl h2⟩
  · rw [if_neg hE]
    exact ⟨fun h2 => absurd h2 hE, fun _ => g1.log.lost (g3 hE) B⟩

/-- a log of a book, that is not down: a pool that is opened over it -/
theorem forgot_text {L : Lg} {fB : Nat} (ok : L.ok) (hd : L.D.down = false) (g : Good B T fB) (hq : B.q ≤ 60000) (hl : ∀ n, n < B.q → LiesF L.fs n (B.K n)) (most : Nat) : Pl.forgot L most = ({ Pl.fresh L most with free := fB }, 0) ∧ fB ≤ 65536 := by
  obtain ⟨fl, f1, _, f3⟩ := g.fl
  have hle := chain_le fl fB f1 (fun y hy => (f3 y hy).2.1)
  obtain ⟨e1, e2⟩ := (reads_q ok (n := 0) (by omega) (hl 0 g.pos)).1 hd
  rw [show ((0 : Nat) : Int) = 0 from rfl] at e1 e2
  unfold Pl.forgot
  rw [if_pos e1, e2, g.root, open_meta (by omega)]
  exact ⟨rfl, by omega⟩
theorem fresh_ok {L : Lg} (ok : L.ok) {most fB : Nat} (hm : most ≤ 64) (hp : L.pages ≤ 65536) (hf : fB ≤ 65536) : ({ Pl.fresh L most with free := fB } : Pl).ok :=
  ⟨ok, List.nodup_nil, fun f hf => (by cases hf), fun f hf => (by cases hf), hm, Nat.zero_le _, hp, by show fB ≤ _; omega, List.nodup_nil, fun x hx => by cases hx⟩
theorem fresh_inv {L : Lg} (h : InvQ L B) (hl : ∀ n, n < B.q → LiesF L.fs n (B.K n)) {most fB : Nat} (hm : 8 ≤ most ∧ most ≤ 64) (hq : B.q ≤ 60000) (hf : fB ≤ 65536) : PInv { Pl.fresh L most with free := fB } B B :=
  ⟨fresh_ok h.safe.ok hm.2 (by have := h.kept.1; omega) hf, h, h.kept.1, hm.1, fun f hf => (by cases hf), fun n hn _ => hl n hn, fun n hn _ => ⟨hn, rfl⟩, Nat.le_refl _⟩

/-- a pool that is only read, over a log that is not down -/
structure PView (P : Pl) (N : Bk) : Prop where
  ok : P.ok
  up : P.L.D.down = false
  pages : P.pages = N.q
  most : 8 ≤ P.most
  ring : ∀ f ∈ P.ring, f.pins = 0 ∧ f.s = N.K f.n ∧ f.dirty = false
  lies : ∀ n, n < N.q → LiesF P.L.fs n (N.K n)
theorem fresh_view {L : Lg} (ok : L.ok) (hd : L.D.down = false) (hp : L.pages = B.q) (hl : ∀ n, n < B.q → LiesF L.fs n (B.K n)) {most fB : Nat} (hm : 8 ≤ most ∧ most ≤ 64) (hq : B.q ≤ 60000) (hf : fB ≤ 65536) : PView { Pl.fresh L most with free := fB } B :=
  ⟨fresh_ok ok hm.2 (by omega) hf, hd, hp, hm.1, fun f hf => (by cases hf), hl⟩
theorem view_room (h : PView P N) : PView P.room.1 N ∧ P.room.2 = 0 := by
  have hok := (room_ok h.ok).1
  unfold Pl.room at hok ⊢
  split
  · exact ⟨h, rfl⟩
  · rename_i hl
    rw [if_neg hl] at hok
    split
    · rename_i hi
      exfalso
      have hm := h.most
      cases hr : P.ring with
      | nil => rw [hr] at hl; simp at hl; omega
      | cons f r =>
        have h1 := List.find?_eq_none.1 hi f (by rw [hr]; exact List.mem_cons_self ..)
        have h2 := (h.ring f (by rw [hr]; exact List.mem_cons_self ..)).1
        rw [h2] at h1
        exact h1 rfl
    · rename_i f hi
      rw [hi] at hok
      dsimp only at hok
      have hf := List.mem_of_find?_eq_some hi
      have e : P.spill f = ({ P with ring := dropN f.n P.ring }, 0) := by unfold Pl.spill; rw [(h.ring f hf).2.2]; rfl
      rw [e] at hok ⊢
      exact ⟨⟨hok, h.up, h.pages, h.most, fun g hg => h.ring g ((dropN_sub _ _).subset hg), h.lies⟩, rfl⟩
theorem view_get (h : PView P N) {x : Nat} (hx : x < N.q) : PView (P.get x).1 N ∧ (P.get x).2 = 0 ∧ P.text x = N.K x := by
  have key : PView (P.get x).1 N ∧ (P.get x).2 = 0 := by
    have hok := get_ok h.ok x
    have hp := h.pages
    have hf := h.ok.few
    unfold Pl.get at hok ⊢
    rw [if_pos (by omega)] at hok ⊢
    split
    · rename_i f hfd
      rw [hfd] at hok
      dsimp only at hok
      have hm : f ∈ P.ring := List.mem_of_find?_eq_some hfd
      have hpm := drop_perm h.ok.names hm
      exact ⟨⟨hok, h.up, h.pages, h.most, fun g hg => h.ring g (hpm.mem_iff.1 hg), h.lies⟩, rfl⟩
    · rename_i hfd
      rw [hfd] at hok
      dsimp only at hok
      obtain ⟨r1, r2⟩ := view_room h
      rw [if_pos r2] at hok ⊢
      generalize P.room.1 = R at *
      obtain ⟨e1, e2⟩ := (reads_q r1.ok.log (by omega) (r1.lies x hx)).1 r1.up
      unfold Pl.fetch at hok ⊢
      rw [Int.toNat_natCast] at hok ⊢
      rw [if_pos e1] at hok ⊢
      refine ⟨⟨hok, r1.up, r1.pages, r1.most, fun f hf2 => ?_, r1.lies⟩, rfl⟩
      rcases List.mem_append.1 hf2 with hf2 | hf2
      · exact r1.ring f hf2
      · rw [List.mem_singleton.1 hf2]
        exact ⟨rfl, e2, rfl⟩
  obtain ⟨k1, k2⟩ := key
  refine ⟨k1, k2, ?_⟩
  obtain ⟨F0, f, hF, hn, _, _⟩ := get_last h.ok k2
  unfold Pl.text
  rw [if_pos k2, (lastF_snoc hF).1]
  have := (k1.ring f (by rw [hF]; simp)).2.1
  rw [this]
  congr 1
  omega
end

end Go.Proofs.Ytjihboddejaelaa

/-
  without and read of package relstorekeep.
-/
namespace Go.Proofs.Ytjihboddejaelaa
set_option linter.unusedVariables false
set_option linter.unusedSimpArgs false
open Go.RowKit
open Go.BigFrame
open Go.Maps
set_option linter.unusedVariables false
set_option linter.unusedSimpArgs false

/-- what is no longer to come of f; nothing at k -/
def Half3 (D : DataW Unit) (f : Int → Option ByteArray) (left : Lit → Bool) (k : Int) : Prop :=
  Maps.has D (.int .i64 k) = false ∧ ∀ x : Int, x ≠ k → (f x = none → Maps.has D (.int .i64 x) = false) ∧ ∀ t, f x = some t → left (.int .i64 x) = false → ∀ z, D.atKey (.int .i64 x) z = .lit (.string t.data.toList)
theorem Half3.ends {D : DataW Unit} {f : Int → Option ByteArray} {left : Lit → Bool} {k : Int} (h : Half3 D f left k) (hl : ∀ z, left z = false) : Tells D (fun y => if y = k then none else f y) := fun x => by
  dsimp only
  by_cases hx : x = k
  · subst hx
    rw [if_pos rfl]
    exact ⟨fun _ => h.1, fun t' h1 z => by cases h1⟩
  · rw [if_neg hx]
    exact ⟨(h.2 x hx).1, fun t h1 => (h.2 x hx).2 t h1 (hl _)⟩
theorem Half3.skip {D D0 : DataW Unit} {f : Int → Option ByteArray} {left : Lit → Bool} {k : Int} (h : Half3 D f left k) : Half3 D f (fun z => left z && !z.sameKey (.int .i64 k)) k :=
  ⟨h.1, fun x hx => ⟨(h.2 x hx).1, fun t h1 h2 => (h.2 x hx).2 t h1 (by dsimp only at h2; rw [sameKey_int hx] at h2; simpa using h2)⟩⟩
theorem Half3.step {D D0 : DataW Unit} {f : Int → Option ByteArray} {left : Lit → Bool} {k : Int} (h : Half3 D f left k) (hm : Maps.IsMap D) (h0 : Tells D0 f) {y : Int} (hy : y ≠ k) {c : ByteArray} (hat : ∀ z, D0.atKey (.int .i64 y) z = .lit (.string c.data.toList)) :
    Half3 (D.put (.int .i64 y) (.lit (.string c.data.toList))) f (fun z => left z && !z.sameKey (.int .i64 y)) k := by
  have hf := h0.some_of hat
  refine ⟨?_, fun x hx => ?_⟩
  · rw [has_put_other (fun e => by cases e; exact hy rfl)]; exact h.1
  · by_cases hxy : x = y
    · subst hxy
      rw [hf]
      exact ⟨fun h1 => (by cases h1), fun t h1 _ z => by cases h1; exact atKey_put_same (k := .int .i64 x) hm trivial _ _⟩
    · have hne : (Lit.int .i64 x) ≠ .int .i64 y := fun e => by cases e; exact hxy rfl
      refine ⟨fun h1 => ?_, fun t h1 h2 z => ?_⟩
      · rw [has_put_other hne]; exact (h.2 x hx).1 h1
      · rw [atKey_put_other hne]
        exact (h.2 x hx).2 t h1 (by dsimp only at h2; rw [sameKey_int hxy] at h2; simpa using h2) z
theorem Half3.start (f : Int → Option ByteArray) (D0 : DataW Unit) (h0 : Tells D0 f) (k : Int) : Half3 (DataW.map []) f (Maps.has D0) k := by
  refine ⟨rfl, fun x hx => ?_⟩
  refine ⟨fun h1 => rfl, fun t h1 h2 z => ?_⟩
  have := has_true_of_atKey ((h0 x).2 t h1)
  rw [h2] at this; cases this

set_option maxRecDepth 100000 in
set_option maxHeartbeats 1600000 in
theorem keep_without (b n : Nat) (f : Int → Option ByteArray) (k : Int) (w : World) (hn : n ≤ 100000) (h : MS w b n f) (hk : (Lit.int .i64 k).wf = true) :
    Calls Try.prog 43 #[.map (some b), .int .i64 k] w (WithPost w n (fun y => if y = k then none else f y)) := by
  obtain ⟨D0, hown, hD⟩ := h
  have hmm := make_mapS w
  have hbl := hown.lt
  have hsz := hown.size_le
  have HT := Lib.hid hD
  have hmade := World.ownsMap_made (H := Unit) w Try.prog 3 (plainElem Try.prog 9)
  have HP := Lib.hid hmade
  have hb1 : Below w.heap.size w (w.alloc (.map #[] 0)) := (Below.refl _ _).alloc (Nat.le_refl _) _
  have hs1 : w.heap.size + 1 ≤ (w.alloc (.map #[] 0)).heap.size := Nat.le_of_eq (World.size_alloc ..).symm
  have hown1 : (w.alloc (.map #[] 0)).ownsMap Try.prog 3 (plainElem Try.prog 9) b n D0 := hown.alloc _
  have H2 := Lib.hid (Half3.start f D0 hD k)
  have HB := Lib.hid hb1
  obtain ⟨w1, hw1⟩ : ∃ w1, w.alloc (.map #[] 0) = w1 := ⟨_, rfl⟩
  rw [hw1] at HP HB hs1 hown1 hmm
  clear hD hmade hb1 hw1 hown
  go_enter Try.func43, Try.ntmps43
  go_wp2_with (first
    | (at_range; refine wpList_range_own _ rfl _ 42 rfl 3 9 lawInt Try.underlying42 _ b n _ rfl hown1 ?_; intro w0 hrg0 hg0 hs0)
    | go_in)
  go_frame
  go_loopw [11] (fun _ wr => ∃ (left : Lit → Bool) (cnt : Nat) (Dout : DataW Unit), wr.ranges Try.prog 3 (plainElem Try.prog 9) b w1.heap.size n D0 left cnt ∧ cnt ≤ Maps.size D0 ∧
      wr.ownsMap Try.prog 3 (plainElem Try.prog 9) w.heap.size (Maps.size D0 - cnt) Dout ∧ Half3 Dout f left k ∧ Below w.heap.size w wr)
    (fun _ wr => wr.rangeLeft b w1.heap.size)
  case atStart =>
    exact ⟨_, _, _, hrg0, Nat.le_refl _, (HP.out.kept hg0 (by simp)).mono (by omega), H2.out, HB.out.grown hg0 (by omega) (fun j hj => by cases hj)⟩
  case round =>
    obtain ⟨left, cnt, Dout, hrg, hcs, hout, hA, hnx⟩ := hrel
    have HAA := Lib.hid hA
    clear hrg0 hg0 hs0 hA H2 HP HB hmm hown1
    go_wp2_with (first
      | (at_next; refine wpList_next_ranges_is _ rfl _ rfl 3 9 .i64 lawInt Try.underlying3 Try.underlying9 b w1.heap.size n _ _ _ rfl hrg ?_ ?_)
      | go_in)
    · intro hc0 hl0
      go_wp2
      go_ret
      subst hc0
      exact ⟨_, rfl, ⟨_, hout.mono (by omega), HAA.out.ends hl0⟩, Nat.le_refl _, hnx⟩
    · intro x c w2 cnt2 hwx hwc hlx hat hrg2 hlt hg2 hs2 hen
      have HAT := Lib.hid hat
      have HLX := Lib.hid hlx
      have hout2 := hout.kept hg2 (by simp; omega)
      clear hat hlx
      by_cases hxk : x = k
      · subst hxk
        go_wp2_with go_in
        go_roundw
        case rel => exact ⟨_, cnt2, Dout, hrg2, by omega, hout2.mono (by omega), HAA.out.skip (D0 := D0), hnx.grown hg2 hnx.size (fun j hj => by cases hj; omega)⟩
        case measure => rw [hrg2.left_eq, hrg.left_eq]; exact hlt
      · have hne : (x == k) = false := by simpa using hxk
        go_wp2_with (first
          | (at_mapUpdate; refine wpList_mapUpdate_own _ rfl _ _ _ 42 rfl 3 9 lawInt Try.underlying42 _ w.heap.size _ _ rfl hout2 (by unfold maxLen; omega) _ _ _ rfl rfl (keyOf_int_mk Try.underlying3 hwx) _ [] (plainElem_string Try.underlying9 hwc) ?_; intro w3 hout3 hg3; go_frame)
          | go_in)
        have hrg3 := hrg2.kept hg3 (fun e => by have := Option.some.inj e; omega) (fun e => by have := Option.some.inj e; omega)
        go_roundw
        case rel =>
          exact ⟨_, cnt2, _, hrg3, by omega, hout3.mono (by omega), HAA.out.step hout.isMap HT.out hxk HAT.out,
            (hnx.grown hg2 hnx.size (fun j hj => by cases hj; omega)).grown hg3 (by have := hnx.size; omega) (fun j hj => by cases hj; omega)⟩
        case measure => rw [hrg3.left_eq, hrg.left_eq]; exact hlt

/-- a pool is read: Q is kept; where a page is not as it is to be, or the disk is down, the answer is no -/
def ReadsPost (B : List (Option Nat)) (w : World) (gd g p e h t : Nat) (Q : Pl → Prop) (k : Nat) (F : Prop) (en : Ending) (w' : World) : Prop :=
  ∃ (r : Bool) (P' : Pl) (b' : List (Option Nat)) (m1' m2' : Nat) (A' : List Nat), en = .returned (.bool r) ∧ Q P' ∧ Fit P'.L.D k ∧ (r = false → F ∨ P'.L.D.down = true) ∧ PM w' b' gd g m1' m2' p e h t A' P' ∧ Turn B (allB b' g m1' m2' p e h t A') w w'
def Misread (T : Nat → Option ByteArray) (K : Nat → ByteArray) (q : Nat) : Prop := ∃ n s, n < q ∧ T n = some s ∧ K n ≠ s

set_option maxRecDepth 100000 in
set_option maxHeartbeats 6400000 in
theorem keep_read (b : List (Option Nat)) (gd g m1 m2 p e h t : Nat) (A : List Nat) (P : Pl) (Q : Pl → Prop) (K : Nat → ByteArray) (q k mb c : Nat) (T : Nat → Option ByteArray) (w : World) (H : PM w b gd g m1 m2 p e h t A P) (hm : MS w mb c (lift T)) (hoff : some mb ∉ allB b g m1 m2 p e h t A)
    (hQ : Q P) (hstep : ∀ (P : Pl) (x : Nat), Q P → x < q → P.ok ∧ Q (P.get x).1 ∧ ((P.get x).2 = 0 → P.text x = K x) ∧ ((P.get x).2 ≠ 0 → (P.get x).1.L.D.down = true)) (hq : q ≤ 60000) (fit : Fit P.L.D (q + k)) :
    Calls Try.prog 47 #[ptrB p, .agg #[.int .i64 q, .map (some mb)]] w (ReadsPost (allB b g m1 m2 p e h t A) w gd g p e h t Q k (Misread T K q)) := by
  have hb0 : Below w.heap.size w (w.alloc (.cells #[.int .i64 q, .map (some mb)] 74)) := (Below.refl _ _).alloc (Nat.le_refl _) _
  have HP := Lib.hid (H.below hb0)
  have HM := Lib.hid (hm.below hb0)
  have HT := Lib.hid (Turn.below (allB b g m1 m2 p e h t A) hb0)
  have HX := Lib.hid (Has.new w 74 #[.int .i64 q, .map (some mb)])
  have HXO : Hid (some w.heap.size ∉ allB b g m1 m2 p e h t A) := Lib.hid (fun hk => by have := H.lt _ hk; omega)
  have HMO := Lib.hid hoff
  have HQ := Lib.hid hQ
  have ST := Lib.hid hstep
  have FT := Lib.hid fit
  obtain ⟨z, hz⟩ : ∃ z, w.heap.size = z := ⟨_, rfl⟩
  have HZ := Lib.hid hz
  clear H hm hoff hQ hstep fit hb0 hz
  go_enter Try.func47, Try.ntmps47
  go_wp2_with fail
  go_loopw [5] (fun v5 wr => ∃ (n : Nat) (P' : Pl) (b' : List (Option Nat)) (m1' m2' : Nat) (A' : List Nat), 1 ≤ n ∧ n ≤ q + 1 ∧ v5 = .int .i64 n ∧ PM wr b' gd g m1' m2' p e h t A' P' ∧ Turn (allB b g m1 m2 p e h t A) (allB b' g m1' m2' p e h t A') w wr ∧
      MS wr mb c (lift T) ∧ some mb ∉ allB b' g m1' m2' p e h t A' ∧ Has wr w.heap.size 74 #[.int .i64 q, .map (some mb)] ∧ some w.heap.size ∉ allB b' g m1' m2' p e h t A' ∧ Q P' ∧ Fit P'.L.D (q + 1 - n + k)) (fun v5 _ => q + 1 - (intOf v5).toNat)
  case atStart => exact ⟨1, P, b, m1, m2, A, Nat.le_refl _, by omega, rfl, HP.out, HT.out, HM.out, HMO.out, HX.out, HXO.out, HQ.out, FT.out.less (by omega)⟩
  case round =>
    obtain ⟨n, P', b', m1', m2', A', hn1, hnq, rfl, hpm, htn, hms, hmo, hx, hxo, hQ', hfit⟩ := hrel
    have x0 : wr.cell? ⟨w.heap.size, 0, none⟩ = some (.int .i64 q) := hx.cell 0
    have x1 : wr.cell? ⟨w.heap.size, 1, none⟩ = some (.map (some mb)) := hx.cell 1
    have H1 := Lib.hid hpm
    have T1 := Lib.hid htn
    have M1 := Lib.hid hms
    have O1 := Lib.hid hmo
    have X1 := Lib.hid hx
    have XO := Lib.hid hxo
    have Q1 := Lib.hid hQ'
    have F1 := Lib.hid hfit
    clear hpm htn hms hmo hx hxo hQ' hfit HP HM HT HX HXO HMO HQ FT
    by_cases hnq2 : n < q
    · have hrun := M1.out.look n (wfI (by omega) (by omega))
      rw [lift_nat] at hrun
      obtain ⟨s1, s2, s3, s4⟩ := ST.out P' n Q1.out hnq2
      have RD := Lib.hid (pool_Read b' gd g m1' m2' p e h t A' P' n ⟨by omega, by omega⟩ wr H1.out s1 (F1.out.less (by omega)))
      have GF := Lib.hid (get_fit (k := q + 1 - (n + 1) + k) (F1.out.less (by omega)) n)
      have S2 := Lib.hid s2
      have S3 := Lib.hid s3
      have S4 := Lib.hid s4
      obtain ⟨R, hR⟩ : ∃ R, (P'.get n).1 = R := ⟨_, rfl⟩
      obtain ⟨E, hE⟩ : ∃ E, (P'.get n).2 = E := ⟨_, rfl⟩
      obtain ⟨X, hX⟩ : ∃ X, P'.text n = X := ⟨_, rfl⟩
      rw [hR, hE, hX] at RD
      rw [hR] at GF S2 S4
      rw [hE] at S3 S4
      rw [hX] at S3
      clear s1 s2 s3 s4 hR hE hX
      have NX := Lib.hid (fun (w2 : World) (b2 : List (Option Nat)) (n3 n4 : Nat) (A2 : List Nat) (h2 : PM w2 b2 gd g n3 n4 p e h t A2 R) (t2 : Turn (allB b' g m1' m2' p e h t A') (allB b2 g n3 n4 p e h t A2) wr w2) =>
        show ∃ (n' : Nat) (P' : Pl) (b' : List (Option Nat)) (m1' m2' : Nat) (A' : List Nat), 1 ≤ n' ∧ n' ≤ q + 1 ∧ Value.int .i64 ((n : Int) + 1) = .int .i64 n' ∧ PM w2 b' gd g m1' m2' p e h t A' P' ∧ Turn (allB b g m1 m2 p e h t A) (allB b' g m1' m2' p e h t A') w w2 ∧
          MS w2 mb c (lift T) ∧ some mb ∉ allB b' g m1' m2' p e h t A' ∧ Has w2 w.heap.size 74 #[.int .i64 q, .map (some mb)] ∧ some w.heap.size ∉ allB b' g m1' m2' p e h t A' ∧ Q P' ∧ Fit P'.L.D (q + 1 - n' + k) from
        ⟨n + 1, R, b2, n3, n4, A2, by omega, by omega, by simp, h2, T1.out.trans t2, M1.out.turn t2 O1.out, t2.not M1.out.lt O1.out, X1.out.turn t2 XO.out, t2.not X1.out.lt XO.out, S2.out, GF.out⟩)
      cases hTn : T n with
      | none =>
        rw [hTn] at hrun
        simp only [Option.getD, Option.isSome] at hrun
        clear hTn
        go_wp2_with (go_at_call 89; refine RD.out.mono ?_; rintro en w2 ⟨rfl, b2, n3, n4, A2, h2, t2⟩)
        go_roundw
        case rel => exact NX.out _ _ _ _ _ h2 t2
        case measure => simp [intOf]; omega
      | some S =>
        rw [hTn] at hrun
        simp only [Option.getD, Option.isSome] at hrun
        have TN := Lib.hid hTn
        clear hTn
        by_cases e0 : E = 0
        · subst e0
          by_cases hs : X = S
          · subst hs
            go_wp2_with (go_at_call 89; refine RD.out.mono ?_; rintro en w2 ⟨rfl, b2, n3, n4, A2, h2, t2⟩)
            go_roundw
            case rel => exact NX.out _ _ _ _ _ h2 t2
            case measure => simp [intOf]; omega
          · have n2 := ba_neK hs
            have MI : Hid (Misread T K q) := Lib.hid ⟨n, S, hnq2, TN.out, by rw [← S3.out rfl]; exact hs⟩
            clear hs
            go_wp2_with (go_at_call 89; refine RD.out.mono ?_; rintro en w2 ⟨rfl, b2, n3, n4, A2, h2, t2⟩)
            go_ret
            exact ⟨false, R, b2, n3, n4, A2, rfl, S2.out, GF.out.less (by omega), fun _ => .inl MI.out, h2, T1.out.trans t2⟩
        · have n1 : (E == 0) = false := by simpa using e0
          have n2 : (E != 0) = true := by simpa using e0
          have DN := Lib.hid (S4.out e0)
          clear e0
          go_wp2_with (go_at_call 89; refine RD.out.mono ?_; rintro en w2 ⟨rfl, b2, n3, n4, A2, h2, t2⟩)
          go_ret
          exact ⟨false, R, b2, n3, n4, A2, rfl, S2.out, GF.out.less (by omega), fun _ => .inr DN.out, h2, T1.out.trans t2⟩
    · have hnq3 : ¬ (n : Int) < (q : Int) := by omega
      go_wp2_with fail
      go_ret
      exact ⟨true, P', b', m1', m2', A', rfl, Q1.out, F1.out.less (by omega), fun h => (by cases h), H1.out, T1.out⟩

end Go.Proofs.Ytjihboddejaelaa
