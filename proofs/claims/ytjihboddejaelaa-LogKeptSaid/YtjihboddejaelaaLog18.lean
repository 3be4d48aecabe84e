/-
  Checkpoint of package wal: the whole.
-/
import Derived.Test.YtjihboddejaelaaLog17
namespace Go.Proofs.Ytjihboddejaelaa
open Go.RowKit
open Go.BigFrame
open Go.Maps
set_option linter.unusedVariables false
set_option linter.unusedSimpArgs false

theorem make_none (w : World) : (Instr.makeMap 102 none).run Try.prog w = .ok (.map (some w.heap.size)) (w.alloc (.map #[] 0)) := rfl
theorem put1_same (R : Rw) (m : Nat) : R.put1 m = { R with D := (R.put1 m).D } := by
  unfold Rw.put1
  split
  · rfl
  · split <;> rfl
theorem puts_same : ∀ (k m : Nat) (R : Rw), (Rw.puts k m R).1 = { R with D := (Rw.puts k m R).1.D }
  | 0, m, R => rfl
  | k + 1, m, R => by
    rw [Rw.puts]
    split
    · have h := puts_same k (m + 1) (R.put1 m)
      rw [put1_same R m] at h ⊢
      exact h
    · exact put1_same R m
/-- the loop of Checkpoint, page m: M is what became of R -/
structure PutAt (R : Rw) (m : Nat) (M : Rw) : Prop where
  le : m ≤ R.np
  goes : Rw.puts R.np 0 R = Rw.puts (R.np - m) m M
  same : M = { R with D := M.D }
  fit : Fit M.D (70000 - min m 65537)
theorem PutAt.start {R : Rw} (h : Fit R.D 70000) : PutAt R 0 R := ⟨Nat.zero_le _, rfl, rfl, h.less (by omega)⟩
theorem PutAt.next {R M : Rw} {m : Nat} (h : PutAt R m M) (hm : m < R.np) (he : M.put1E m = 0) : PutAt R (m + 1) (M.put1 m) := by
  refine ⟨hm, ?_, ?_, put1_fit h.fit⟩
  · rw [h.goes, show R.np - m = (R.np - (m + 1)) + 1 by omega, Rw.puts, if_pos he]
  · have h2 := h.same
    have h3 := put1_same M m
    generalize M.put1 m = X at *
    rw [h3, h2]
theorem PutAt.stop {R M : Rw} {m : Nat} (h : PutAt R m M) (hm : m < R.np) (he : M.put1E m ≠ 0) : Rw.puts R.np 0 R = (M.put1 m, M.put1E m) := by
  rw [h.goes, show R.np - m = (R.np - (m + 1)) + 1 by omega, Rw.puts, if_neg he]
theorem PutAt.last {R M : Rw} {m : Nat} (h : PutAt R m M) (hm : m = R.np) : Rw.puts R.np 0 R = (M, 0) := by
  rw [h.goes, show R.np - m = 0 by omega, Rw.puts]
def PutHeld (w : World) (b : List (Option Nat)) (gd g m1 m2 N : Nat) (M : Rw) (wr : World) : Prop :=
  ∃ b', LR wr b' gd g m1 m2 M ∧ Has wr N 36 #[.pointer (some ⟨g, 0, none⟩)] ∧ some N ∉ b' ++ lb g m1 m2 ∧ Turn (b ++ lb g m1 m2) (b' ++ lb g m1 m2) w wr
theorem PutHeld.disk {w wr w' : World} {b b' b'' : List (Option Nat)} {gd g m1 m2 N : Nat} {M : Rw} {D' : Dk} (hl : LR wr b' gd g m1 m2 M) (hx : Has wr N 36 #[.pointer (some ⟨g, 0, none⟩)]) (ho : some N ∉ b' ++ lb g m1 m2) (ht : Turn (b ++ lb g m1 m2) (b' ++ lb g m1 m2) w wr)
    (hd : DP w' b'' gd D') (hu : Turn b' b'' wr w') : PutHeld w b gd g m1 m2 N { M with D := D' } w' := by
  obtain ⟨h1, h2⟩ := hl.onDisk hd hu
  exact ⟨b'', h1, hx.turn hu (fun h3 => ho (List.mem_append_left _ h3)), h2.not hx.lt ho, ht.trans h2⟩

set_option maxRecDepth 100000 in
set_option maxHeartbeats 6400000 in
theorem wal_Checkpoint (b : List (Option Nat)) (gd g m1 m2 : Nat) (R : Rw) (w : World) (h : LR w b gd g m1 m2 R) (hfit : Fit R.D 70000) (hs : R.slot < 2) (hnum : R.number < 4) (hp : R.np ≤ 4294967296) (hf1 : ∀ x, R.f1 x ≤ 1000000) :
    Calls Try.prog 21 #[.pointer (some ⟨g, 0, none⟩)] w (MapsPost w b gd g m1 m2 R.checkpoint.1 (.int .i64 R.checkpoint.2)) := by
  have HW := Lib.hid (show Has (w.alloc (.cells #[.pointer (some ⟨g, 0, none⟩)] 36)) w.heap.size 36 #[.pointer (some ⟨g, 0, none⟩)] ∧ Below w.heap.size w (w.alloc (.cells #[.pointer (some ⟨g, 0, none⟩)] 36)) from ⟨Has.new _ _ _, (Below.refl _ _).alloc (Nat.le_refl _) _⟩)
  have HL := Lib.hid h
  have NB := Lib.hid (show some w.heap.size ∉ b ++ lb g m1 m2 from fun h2 => by have := h.lt h2; omega)
  by_cases h1 : R.nf ≠ R.kf
  · have e1 : R.checkpoint = (R, 11) := if_pos h1
    rw [e1]
    have t1 : ((R.nf : Int) != (R.kf : Int)) = true := by rw [bne_iff_ne]; omega
    clear h hfit
    go_enter Try.func21, Try.ntmps21
    go_upto_region 1 with fail
    generalize w.alloc (.cells #[.pointer (some ⟨g, 0, none⟩)] 36) = W at *
    have LW := Lib.hid (HL.out.below HW.out.2)
    have x0 := HW.out.1.cell 0
    obtain ⟨z1, z2, z3⟩ := LW.out.now
    obtain ⟨z4, z5, z6⟩ := LW.out.old
    have gz := LW.out.has.lt
    have hqb := (Below.refl W.heap.size W).drew
    have LQ := Lib.hid (LW.out.below hqb)
    go_region
    go_wp2_with fail
    go_ret
    exact ⟨rfl, b, m1, m2, LQ.out, (Turn.below _ HW.out.2).trans (Turn.below _ hqb)⟩
  · have h1' : R.nf = R.kf := Classical.byContradiction h1
    have t1 : ((R.nf : Int) != (R.kf : Int)) = false := by rw [bne_eq_false_iff_eq]; omega
    by_cases h2 : R.nf = 0
    · have e1 : R.checkpoint = (R, 0) := (if_neg h1).trans (if_pos h2)
      rw [e1]
      have t2 : ((R.nf : Int) == 0) = true := by simp; exact h2
      clear h hfit h1
      go_enter Try.func21, Try.ntmps21
      go_upto_region 1 with fail
      generalize w.alloc (.cells #[.pointer (some ⟨g, 0, none⟩)] 36) = W at *
      have LW := Lib.hid (HL.out.below HW.out.2)
      have x0 := HW.out.1.cell 0
      obtain ⟨z1, z2, z3⟩ := LW.out.now
      obtain ⟨z4, z5, z6⟩ := LW.out.old
      have gz := LW.out.has.lt
      have hqb := (Below.refl W.heap.size W).drew
      have LQ := Lib.hid (LW.out.below hqb)
      go_region
      have XQ := Lib.hid (HW.out.1.belowS hqb)
      have q0 := XQ.out.cell 0
      obtain ⟨q1, q2, q3⟩ := LQ.out.now
      have qz := LQ.out.has.lt
      go_wp2_with fail
      go_ret
      exact ⟨rfl, b, m1, m2, LQ.out, (Turn.below _ HW.out.2).trans (Turn.below _ hqb)⟩
    · have t2 : ((R.nf : Int) == 0) = false := by rw [beq_eq_false_iff_ne]; omega
      have EC := Lib.hid (show R.checkpoint = if (Rw.puts R.np 0 R).2 ≠ 0 then Rw.puts R.np 0 R else (Rw.puts R.np 0 R).1.check3 from (if_neg h1).trans (if_neg h2))
      have HF := Lib.hid hfit
      have HF1 := Lib.hid hf1
      have HP := Lib.hid hp
      have H1' := Lib.hid h1'
      clear h hfit h1 hf1 hp h1' h2
      go_enter Try.func21, Try.ntmps21
      go_upto_region 1 with fail
      generalize w.alloc (.cells #[.pointer (some ⟨g, 0, none⟩)] 36) = W at *
      have LW := Lib.hid (HL.out.below HW.out.2)
      have x0 := HW.out.1.cell 0
      obtain ⟨z1, z2, z3⟩ := LW.out.now
      obtain ⟨z4, z5, z6⟩ := LW.out.old
      have gz := LW.out.has.lt
      have hqb := (Below.refl W.heap.size W).drew
      have LQ := Lib.hid (LW.out.below hqb)
      go_region
      have XQ := Lib.hid (HW.out.1.belowS hqb)
      have TQ := Lib.hid ((Turn.below (b ++ lb g m1 m2) HW.out.2).trans (Turn.below _ hqb))
      have q0 := XQ.out.cell 0
      obtain ⟨q1, q2, q3⟩ := LQ.out.now
      have qz := LQ.out.has.lt
      clear LW x0 z1 z2 z3 z4 z5 z6 gz HW hqb
      go_wp2_with fail
      go_loopw [29] (fun v29 wr => ∃ (m : Nat) (M : Rw), v29 = .int .i64 m ∧ PutAt R m M ∧ PutHeld w b gd g m1 m2 w.heap.size M wr) (fun v29 _ => R.np - (intOf v29).toNat)
      case atStart => exact ⟨0, R, rfl, PutAt.start HF.out, b, LQ.out, XQ.out, NB.out, TQ.out⟩
      case round =>
        obtain ⟨m, M, rfl, hM, b', hl, hx, ho, ht⟩ := hrel
        have HM := Lib.hid hM
        have HL2 := Lib.hid hl
        have HX := Lib.hid hx
        have HO := Lib.hid ho
        have HT := Lib.hid ht
        clear hM hl hx ho ht LQ XQ TQ q0 q1 q2 q3 qz HL NB
        have y0 := HX.out.cell 0
        obtain ⟨z1, z2, z3⟩ := HL2.out.now
        have x0 := HL2.out.cell0
        have gz := HL2.out.has.lt
        by_cases hm : m < R.np
        · have F1 := Lib.hid (show M.f1 = R.f1 by rw [HM.out.same])
          have mi : (m : Int) < (R.np : Int) := by omega
          have MP1 := Lib.hid HL2.out.map1
          have WN := Lib.hid (wfI (x := (m : Int)) (by omega) (by have := HP.out; omega))
          have mw : wrap64 ((m : Int) * 1024) = (m : Int) * 1024 := IntWalk.wrap64_in _ (by have := HP.out; omega)
          have mb : m ≤ 4294967296 := by have := HP.out; omega
          by_cases hk : M.f1 m = 0
          · have N1 := Lib.hid (HM.out.next hm (if_pos hk))
            have e1 : M.put1 m = M := if_pos hk
            rw [e1] at N1
            have HK := Lib.hid hk
            clear hk e1
            go_wp2_with (at_lookup; refine wpList_lookup_mp _ rfl _ _ rfl m1 M.nf M.f1 rfl MP1.out (m : Int) rfl WN.out ?_; rw [HK.out])
            go_roundw
            case rel => exact ⟨m + 1, M, by simp, N1.out, b', HL2.out, HX.out, HO.out, HT.out⟩
            case measure => simp [intOf]; omega
          · have hfm := HF1.out m
            rw [← F1.out] at hfm
            have RD := Lib.hid (wal_Read b' gd g m1 m2 M m wr HL2.out HM.out.fit.ok hfm)
            have hsz := rwreadS_size HM.out.fit.ok (R := M) m
            have HE := Lib.hid (show M.put1E m = if M.readE m ≠ 0 then M.readE m else M.D.writeE 0 (m * 1024 : Nat) (M.readS m) from if_neg hk)
            have HD := Lib.hid (show M.put1 m = if M.readE m ≠ 0 then M else { M with D := M.D.write 0 (m * 1024 : Nat) (M.readS m) } from if_neg hk)
            have WT := Lib.hid (disk_Write gd M.D b' 0 (m * 1024 : Nat) (M.readS m) wr HL2.out.disk HM.out.fit.ok (by have := HM.out.fit.count; omega) (by have := HM.out.fit.waits; omega) (by omega))
            obtain ⟨S, hS⟩ : ∃ S, M.readS m = S := ⟨_, rfl⟩
            obtain ⟨E1, hE1⟩ : ∃ E, M.readE m = E := ⟨_, rfl⟩
            rw [hS, hE1] at RD
            rw [hS, hE1] at HE HD
            rw [hS] at WT
            obtain ⟨E2, hE2⟩ : ∃ E, M.D.writeE 0 (m * 1024 : Nat) S = E := ⟨_, rfl⟩
            obtain ⟨D', hD'⟩ : ∃ E, M.D.write 0 (m * 1024 : Nat) S = E := ⟨_, rfl⟩
            rw [hE2] at HE
            rw [hD'] at HD
            rw [hE2, hD', Int.natCast_mul] at WT
            rw [show ((1024 : Nat) : Int) = 1024 from rfl] at WT
            obtain ⟨k, hkk⟩ : ∃ k, M.f1 m = k := ⟨_, rfl⟩
            have HK := Lib.hid hkk
            rw [hkk] at hk hfm
            have k0 : ((k : Int) == 0) = false := by rw [beq_eq_false_iff_ne]; omega
            clear hS hE1 hE2 hD' hkk hk hsz
            by_cases h3 : E1 = 0
            · subst h3
              have HE' := Lib.hid (show M.put1E m = E2 from HE.out.trans (if_neg (fun h => h rfl)))
              have HD'' := Lib.hid (show M.put1 m = { M with D := D' } from HD.out.trans (if_neg (fun h => h rfl)))
              clear HE HD
              by_cases h4 : E2 = 0
              · subst h4
                have N1 := Lib.hid (HM.out.next hm HE'.out)
                rw [HD''.out] at N1
                go_wp2_with (first | (at_lookup; refine wpList_lookup_mp _ rfl _ _ rfl m1 M.nf M.f1 rfl MP1.out (m : Int) rfl WN.out ?_; rw [HK.out]) | (go_at_call 28; refine (RD.out).mono ?_; rintro e w1 ⟨rfl, rfl⟩) | (go_at_call 51; (with_reducible refine WT.out.mono ?_); rintro e w2 ⟨rfl, b2, hd2, ht2⟩; have HD2 := Lib.hid (PutHeld.disk HL2.out HX.out HO.out HT.out hd2 ht2); clear hd2 ht2))
                go_roundw
                case rel => exact ⟨m + 1, _, by simp, N1.out, HD2.out⟩
                case measure => simp [intOf]; omega
              · have N1 := Lib.hid (HM.out.stop hm (by rw [HE'.out]; exact h4))
                rw [HD''.out, HE'.out] at N1
                go_wp2_with (first | (at_lookup; refine wpList_lookup_mp _ rfl _ _ rfl m1 M.nf M.f1 rfl MP1.out (m : Int) rfl WN.out ?_; rw [HK.out]) | (go_at_call 28; refine (RD.out).mono ?_; rintro e w1 ⟨rfl, rfl⟩) | (go_at_call 51; (with_reducible refine WT.out.mono ?_); rintro e w2 ⟨rfl, b2, hd2, ht2⟩; have HD2 := Lib.hid (PutHeld.disk HL2.out HX.out HO.out HT.out hd2 ht2); clear hd2 ht2))
                go_ret
                rw [EC.out, N1.out, if_pos h4]
                obtain ⟨b3, q1, _, _, q4⟩ := HD2.out
                exact ⟨rfl, b3, m1, m2, q1, q4⟩
            · have HE' := Lib.hid (show M.put1E m = E1 from HE.out.trans (if_pos h3))
              have HD'' := Lib.hid (show M.put1 m = M from HD.out.trans (if_pos h3))
              have N1 := Lib.hid (HM.out.stop hm (by rw [HE'.out]; exact h3))
              rw [HD''.out, HE'.out] at N1
              clear HE HD
              go_wp2_with (first | (at_lookup; refine wpList_lookup_mp _ rfl _ _ rfl m1 M.nf M.f1 rfl MP1.out (m : Int) rfl WN.out ?_; rw [HK.out]) | (go_at_call 28; refine (RD.out).mono ?_; rintro e w1 ⟨rfl, rfl⟩))
              go_ret
              rw [EC.out, N1.out, if_pos h3]
              exact ⟨rfl, b', m1, m2, HL2.out, HT.out⟩
        · have hm2 : m = R.np := by have := HM.out.le; omega
          have R1 := Lib.hid (show R.checkpoint = M.check3 by rw [EC.out, HM.out.last hm2, if_neg (fun h => h rfl)])
          have np : M.np = R.np := by rw [HM.out.same]
          have CH := Lib.hid (wal_checkChain b' b gd g m1 m2 w.heap.size M w wr HL2.out (HM.out.fit.less (by omega)) (by rw [HM.out.same]; exact hs) (by rw [HM.out.same]; exact hnum) (by rw [np]; exact HP.out) HX.out HO.out HT.out)
          have r0 : M.check3 = if (upTo (checkEs M M.np) 3).2 = 0 then ({ checkR M M.np (upTo (checkEs M M.np) 3).1 with nf := 0, np := (checkR M M.np (upTo (checkEs M M.np) 3).1).kp, f1 := fun _ => 0, kf := 0, kp := (checkR M M.np (upTo (checkEs M M.np) 3).1).kp, f2 := fun _ => 0 }, 0) else (checkR M M.np (upTo (checkEs M M.np) 3).1, (upTo (checkEs M M.np) 3).2) := rfl
          obtain ⟨E, hE⟩ : ∃ E, (upTo (checkEs M M.np) 3).2 = E := ⟨_, rfl⟩
          obtain ⟨C, hC⟩ : ∃ C, checkR M M.np (upTo (checkEs M M.np) 3).1 = C := ⟨_, rfl⟩
          rw [hE, hC] at r0 CH
          rw [r0] at R1
          have mi : ¬ ((m : Int) < (R.np : Int)) := by omega
          clear hE hC r0 np hm hm2
          by_cases hE0 : E = 0
          · subst hE0
            have hmm := make_none
            go_wp2_with ((go_at_call 68; refine CH.out.mono ?_); rintro e w2 ⟨rfl, hH⟩; obtain ⟨b2, hl, hx, ho, ht⟩ := hH; have HL3 := Lib.hid hl; have HX3 := Lib.hid (checkBox_of hx); have HT3 := Lib.hid ht; have HO3 := Lib.hid (ho (w.heap.size, 36, #[.pointer (some ⟨g, 0, none⟩)]) (by simp [checkXs])); have y1 := (checkBox_of hx).cell 0; have yl := (checkBox_of hx).lt; obtain ⟨z4, z5, z6⟩ := hl.old; have zf := hl.has.frozen; have zz := hl.has.lt; clear hl hx ho ht)
            clear HM HL2 HX HO HT y0 z1 z2 z3 x0 gz CH
            have hz := HL3.out.has.lt
            have EQ := Lib.hid (show (((w2.alloc (.map #[] 0)).setCell ⟨g, 4, none⟩ (.int .i64 0)).setCell ⟨g, 5, none⟩ (.int .i64 C.kp)).setCell ⟨g, 6, none⟩ (.map (some w2.heap.size)) = (((w2.setCell ⟨g, 4, none⟩ (.int .i64 0)).setCell ⟨g, 5, none⟩ (.int .i64 C.kp)).setCell ⟨g, 6, none⟩ (.map (some w2.heap.size))).alloc (.map #[] 0) by simp [go_sem, hz])
            have CP := Lib.hid (fun m' w1 (h1 : MP w1 m' 0 (fun _ => 0)) => wal_copied m' 0 C.kp 0 (fun _ => 0) w1 (by omega) h1)
            rw [show ((0 : Nat) : Int) = 0 from rfl] at CP
            go_region
            all_goals
              have ba := (Below.refl w2.heap.size w2).alloc (Nat.le_refl _) (.map #[] 0)
              obtain ⟨h5, t5⟩ := (HL3.out.below ba).newKept (Turn.below (b2 ++ lb g m1 m2) ba) (MP.made w2) (fun h3 => by have := HL3.out.lt h3; omega) (Nat.le_refl _) C.kp
              have x5 := ((((HX3.out.alloc (.map #[] 0)).far (p := ⟨g, 4, none⟩) (fun e => HO3.out (by rw [e]; exact List.mem_append_right _ (mem_lb.2 (.inl rfl)))) (.int .i64 0)).far (p := ⟨g, 5, none⟩) (fun e => HO3.out (by rw [e]; exact List.mem_append_right _ (mem_lb.2 (.inl rfl)))) (.int .i64 C.kp)).far (p := ⟨g, 6, none⟩) (fun e => HO3.out (by rw [e]; exact List.mem_append_right _ (mem_lb.2 (.inl rfl)))) (.map (some w2.heap.size)))
              rw [show ((0 : Nat) : Int) = 0 from rfl, EQ.out] at h5 t5
              rw [EQ.out] at x5
              have HK := Lib.hid h5
              have TK := Lib.hid t5
              have XK := Lib.hid x5
              clear h5 t5 x5 ba EQ hmm z4 z5 z6 zf zz y1 yl hz
              generalize (((w2.setCell ⟨g, 4, none⟩ (.int .i64 0)).setCell ⟨g, 5, none⟩ (.int .i64 C.kp)).setCell ⟨g, 6, none⟩ (.map (some w2.heap.size))).alloc (.map #[] 0) = V at *
              have HU := Lib.hid (HK.out.below (Below.refl _ _).drew)
              have XU := Lib.hid (XK.out.belowS (Below.refl _ _).drew)
              have TU := Lib.hid (TK.out.trans (Turn.below _ (Below.refl _ _).drew))
              clear HK XK TK
              generalize V.drew = U at *
              have y0 := XU.out.cell 0
              have LD := Lib.hid (HU.out.below (Below.refl _ _).drew)
              have YD := Lib.hid (XU.out.belowS (Below.refl _ _).drew)
              obtain ⟨q4, q5, q6⟩ := HU.out.old
              dsimp only at q4 q5 q6
              rw [show ((0 : Nat) : Int) = 0 from rfl] at q4
              obtain ⟨q1, q2, q3⟩ := HU.out.now
              have qz := HU.out.has.lt
              have qf := HU.out.has.frozen
              go_wp2_with fail
              go_region_with ((go_at_call 66; refine (CP.out _ _ LD.out.map2).mono ?_); rintro e w3 ⟨m', rfl, hm, hlow, hb⟩; have HM := Lib.hid hm; have HW := Lib.hid hlow; have HB := Lib.hid hb; have c1 := (LD.out.below hb).now; have y1 := (LD.out.below hb).has.lt; have yf := (LD.out.below hb).has.frozen; have yl := (YD.out.belowS hb).cell 0; clear hm hlow hb; obtain ⟨c1, c2, c3⟩ := c1)
              all_goals
                go_wp2_with fail
                go_ret
                have H3 := LD.out.below HB.out
                have hv : Turn (b2 ++ lb g m1 w2.heap.size) (b2 ++ lb g m1 w2.heap.size) U U.drew := Turn.below _ (Below.refl _ _).drew
                obtain ⟨h4, t4⟩ := H3.newNow (hv.trans (Turn.below _ HB.out)) HM.out (fun h3 => by have := LD.out.lt h3; have := HW.out; omega) HW.out C.kp
                rw [show ((0 : Nat) : Int) = 0 from rfl] at h4 t4
                rw [R1.out]
                first | rw [if_pos rfl] | rw [if_pos trivial]
                exact ⟨rfl, b2, m', w2.heap.size, h4, (HT3.out.trans TU.out).trans t4⟩
          · go_wp2_with ((go_at_call 68; refine CH.out.mono ?_); rintro e w2 ⟨rfl, hH⟩; obtain ⟨b2, hl, hx, ho, ht⟩ := hH; have HL3 := Lib.hid hl; have HX3 := Lib.hid (checkBox_of hx); have HT3 := Lib.hid ht; have HO3 := Lib.hid (ho (w.heap.size, 36, #[.pointer (some ⟨g, 0, none⟩)]) (by simp [checkXs])); have y1 := (checkBox_of hx).cell 0; have yl := (checkBox_of hx).lt; obtain ⟨z4, z5, z6⟩ := hl.old; have zf := hl.has.frozen; have zz := hl.has.lt; clear hl hx ho ht)
            go_ret
            rw [R1.out, if_neg hE0]
            exact ⟨rfl, b2, m1, m2, HL3.out, HT3.out⟩

end Go.Proofs.Ytjihboddejaelaa
