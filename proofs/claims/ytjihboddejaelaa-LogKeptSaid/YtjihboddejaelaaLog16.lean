/-
  Commit of package wal: the whole.
-/
import Derived.Test.YtjihboddejaelaaLog15
namespace Go.Proofs.Ytjihboddejaelaa
open Go.RowKit
open Go.BigFrame
open Go.Maps
set_option linter.unusedVariables false
set_option linter.unusedSimpArgs false

section
variable {w0 w w' : World} {b c : List (Option Nat)} {gd g m1 m2 m n : Nat} {R : Rw} {f : Int → Nat}
/-- another point stands in the place of kept -/
theorem LR.newKept (h : LR w b gd g m1 m2 R) (ht : Turn c (b ++ lb g m1 m2) w0 w) (hm : MP w m n f) (hoff : some m ∉ b ++ lb g m1 m2) (hlow : w0.heap.size ≤ m) (p : Nat) :
    LR (((w.setCell ⟨g, 4, none⟩ (.int .i64 n)).setCell ⟨g, 5, none⟩ (.int .i64 p)).setCell ⟨g, 6, none⟩ (.map (some m))) b gd g m1 m { R with kf := n, kp := p, f2 := f } ∧
    Turn c (b ++ lb g m1 m) w0 (((w.setCell ⟨g, 4, none⟩ (.int .i64 n)).setCell ⟨g, 5, none⟩ (.int .i64 p)).setCell ⟨g, 6, none⟩ (.map (some m))) := by
  have t1 : Turn [some g] [some g] w (((w.setCell ⟨g, 4, none⟩ (.int .i64 n)).setCell ⟨g, 5, none⟩ (.int .i64 p)).setCell ⟨g, 6, none⟩ (.map (some m))) := ((Turn.cell g 4 _ w).trans (Turn.cell g 5 _ _)).trans (Turn.cell g 6 _ _)
  have hg : some g ∈ b ++ lb g m1 m2 := List.mem_append_right _ (mem_lb.2 (.inl rfl))
  have hmg : m ≠ g := by rintro rfl; exact hoff hg
  have hm1 : m1 ≠ m := by rintro rfl; exact hoff (List.mem_append_right _ (mem_lb.2 (.inr (.inl rfl))))
  have hmb : some m ∉ b := fun h2 => hoff (List.mem_append_left _ h2)
  refine ⟨⟨h.disk.turn t1 fun k hk h2 => ?_, ((h.has.set 4 _).set 5 _).set 6 _, h.map1.turn t1 fun h3 => h.ne1 (by simpa using h3 : m1 = g).symm, hm.turn t1 fun h3 => hmg (by simpa using h3), hm1, fun k hk h2 => ?_⟩, ?_⟩
  · have : k = g := by simpa using hk
    subst this; exact h.off.1 h2
  · rcases mem_lb.1 h2 with rfl | rfl | rfl
    · exact h.off.1 hk
    · exact h.off.2.1 hk
    · exact hmb hk
  · refine ht.trans' t1 (fun k hk => ?_) (fun k hk => ?_)
    · have : k = g := by simpa using hk
      subst this; exact hg
    · rcases List.mem_append.1 hk with h2 | h2
      · exact .inl (List.mem_append_left _ h2)
      · rcases mem_lb.1 h2 with rfl | rfl | rfl
        · exact .inl hg
        · exact .inl (List.mem_append_right _ (mem_lb.2 (.inr (.inl rfl))))
        · exact .inr hlow
end
theorem commitR_nf (R : Rw) (n : Int) (t : ByteArray) (p k : Nat) : (commitR R n t p k).nf ≤ R.nf + 1 := by
  obtain ⟨_, _, a3, _⟩ := app_same R n t
  unfold commitR
  split
  · exact Nat.le_succ _
  · exact a3
  · exact a3
  · rw [(tell_same _ _ _).1]; exact a3

def commitW (w : World) (g : Nat) (n : Int) (t : ByteArray) (p : Nat) : World := (((w.alloc (.cells #[.pointer (some ⟨g, 0, none⟩)] 36)).alloc (.cells #[.int .i64 n] 3)).alloc (.cells #[.string t] 9)).alloc (.cells #[.int .i64 p] 3)
theorem commitW_box (w : World) (g : Nat) (n : Int) (t : ByteArray) (p : Nat) : CommitBox (commitW w g n t p) w.heap.size g n t p ∧ Below w.heap.size w (commitW w g n t p) ∧ (commitW w g n t p).heap.size = w.heap.size + 4 := by
  have a1 := Has.new w 36 #[.pointer (some ⟨g, 0, none⟩)]
  have a2 := Has.new (w.alloc (.cells #[.pointer (some ⟨g, 0, none⟩)] 36)) 3 #[.int .i64 n]
  have a3 := Has.new ((w.alloc (.cells #[.pointer (some ⟨g, 0, none⟩)] 36)).alloc (.cells #[.int .i64 n] 3)) 9 #[.string t]
  have a4 := Has.new (((w.alloc (.cells #[.pointer (some ⟨g, 0, none⟩)] 36)).alloc (.cells #[.int .i64 n] 3)).alloc (.cells #[.string t] 9)) 3 #[.int .i64 p]
  rw [World.size_alloc] at a2
  rw [World.size_alloc, World.size_alloc] at a3
  rw [World.size_alloc, World.size_alloc, World.size_alloc] at a4
  exact ⟨⟨((a1.alloc _).alloc _).alloc _, (a2.alloc _).alloc _, a3.alloc _, a4⟩, ((((Below.refl _ _).alloc (Nat.le_refl _) _).alloc (by simp) _).alloc (by simp; omega) _).alloc (by simp; omega) _, by simp [commitW]⟩

set_option maxRecDepth 100000 in
set_option maxHeartbeats 3200000 in
theorem wal_Commit (b : List (Option Nat)) (gd g m1 m2 : Nat) (R : Rw) (n : Int) (t : ByteArray) (p : Int) (w : World) (h : LR w b gd g m1 m2 R) (hfit : Fit R.D 4) (hs : R.slot < 2) (hnum : R.number < 4) (hnf : R.nf ≤ 100000) :
    Calls Try.prog 19 #[.pointer (some ⟨g, 0, none⟩), .int .i64 n, .string t, .int .i64 p] w (MapsPost w b gd g m1 m2 (R.commit n t p) (.int .i64 (R.commitE n t p))) := by
  by_cases hp : 1 ≤ p ∧ p ≤ 65536
  · obtain ⟨q, rfl⟩ : ∃ q : Nat, p = q := ⟨p.toNat, (Int.toNat_of_nonneg (by omega)).symm⟩
    have r1 := Lib.hid (show R.commit n t q = if (upTo (commitEs R n t q) 3).2 = 0 then { commitR R n t q (upTo (commitEs R n t q) 3).1 with np := q, kf := (commitR R n t q (upTo (commitEs R n t q) 3).1).nf, kp := q, f2 := (commitR R n t q (upTo (commitEs R n t q) 3).1).f1 } else commitR R n t q (upTo (commitEs R n t q) 3).1 from if_pos hp)
    have r2 : R.commitE n t q = (upTo (commitEs R n t q) 3).2 := if_pos hp
    rw [r2]
    have HB := Lib.hid (commitW_box w g n t q)
    have d1 : decide ((q : Int) < 1) = false := by simp; omega
    have d2 : decide ((65536 : Int) < (q : Int)) = false := by simp; omega
    have CH := Lib.hid (fun (W : World) (hW : Below w.heap.size w W) (hbx : CommitBox W w.heap.size g n t q) => wal_commitChain b gd g m1 m2 R n t q W.heap.size w (W.alloc (.cells ((commitFs w.heap.size).map (fun x => Value.func (.func x.1) #[] x.2)).toArray 50)) h hfit hs hnum hnf (by omega) (hW.alloc hW.size _) (Has.new _ _ _) ⟨hbx.l.alloc _, hbx.n.alloc _, hbx.t.alloc _, hbx.p.alloc _⟩ hW.size)
    obtain ⟨E, hE⟩ : ∃ E, (upTo (commitEs R n t q) 3).2 = E := ⟨_, rfl⟩
    have hC := commitR_nf R n t q (upTo (commitEs R n t q) 3).1
    obtain ⟨C, hC2⟩ : ∃ C, commitR R n t q (upTo (commitEs R n t q) 3).1 = C := ⟨_, rfl⟩
    rw [hC2] at hC
    rw [hE, hC2] at CH r1
    rw [hE]
    have HL := Lib.hid h
    have HQ := Lib.hid hp
    have HNF := Lib.hid (show C.nf ≤ 1000000 by omega)
    clear hE hC hC2 h hfit hp r2 hnf
    go_enter Try.func19, Try.ntmps19
    go_upto_region 1 with fail
    rw [show (((w.alloc (.cells #[.pointer (some ⟨g, 0, none⟩)] 36)).alloc (.cells #[.int .i64 n] 3)).alloc (.cells #[.string t] 9)).alloc (.cells #[.int .i64 q] 3) = commitW w g n t q from rfl]
    generalize commitW w g n t q = W at *
    obtain ⟨hbx, hbw, hsz⟩ := HB.out
    have HBX := Lib.hid hbx; have HBW := Lib.hid hbw; have HSZ := Lib.hid hsz
    have x0 := hbx.l.cell 0
    have x3 := hbx.p.cell 0
    have CW := Lib.hid (CH.out W hbw hbx)
    clear hbx hbw hsz HB CH
    have CP := Lib.hid (fun w1 (h1 : MP w1 m1 C.nf C.f1) => wal_copied m1 C.nf q C.nf C.f1 w1 HNF.out h1)
    go_wp2_with ((go_at_call 68; refine CW.out.mono ?_); rintro e w2 ⟨rfl, hH⟩; obtain ⟨b', hl, hx, ho, ht⟩ := hH; have HL2 := Lib.hid hl; have HX := Lib.hid (commitBox_of hx); have HT := Lib.hid ht; have HOG := Lib.hid (ho (w.heap.size, 36, #[.pointer (some ⟨g, 0, none⟩)]) (by simp [commitXs])); have y0 := (commitBox_of hx).l.cell 0; have y3 := (commitBox_of hx).p.cell 0; obtain ⟨z1, z2, z3⟩ := hl.now; obtain ⟨z4, z5, z6⟩ := hl.old; have zf := hl.has.frozen; have gz := hl.has.lt; clear hl hx ho ht)
    · have hE0 : E = 0 := by rename_i hE; simpa using hE
      have R1 := Lib.hid (r1.out.trans (if_pos hE0))
      have HS := Lib.hid (HL2.out.set 2 (.int .i64 q) { C with np := q } rfl rfl HL2.out.map1 HL2.out.map2)
      have HY := Lib.hid (HX.out.l.far (p := ⟨g, 2, none⟩) (fun e => HOG.out (by rw [e]; exact List.mem_append_right _ (mem_lb.2 (.inl rfl)))) (.int .i64 q))
      clear y0 y3 z1 z2 z3 z4 z5 z6 zf gz x0 x3 CW
      generalize w2.setCell ⟨g, 2, none⟩ (.int .i64 q) = V at *
      have y0 := HY.out.cell 0
      have LV := Lib.hid HS.out.1
      obtain ⟨z1, z2, z3⟩ := LV.out.now
      obtain ⟨z4, z5, z6⟩ := LV.out.old
      have zf := LV.out.has.frozen
      have gz := LV.out.has.lt
      have LD := Lib.hid (LV.out.below (Below.refl _ _).drew)
      have YD := Lib.hid (HY.out.belowS (Below.refl _ _).drew)
      go_region_with ((go_at_call 66; refine (CP.out _ LD.out.map1).mono ?_); rintro e w3 ⟨m, rfl, hm, hlow, hb⟩; have HM := Lib.hid hm; have HW := Lib.hid hlow; have HB := Lib.hid hb; have c1 := (LD.out.below hb).old; have y1 := (LD.out.below hb).has.lt; have yf := (LD.out.below hb).has.frozen; have yl := (YD.out.belowS hb).cell 0; clear hm hlow hb; obtain ⟨c1, c2, c3⟩ := c1)
      all_goals
        go_wp2_with fail
        go_ret
        have H3 := LD.out.below HB.out
        have hv : Turn (b' ++ lb g m1 m2) (b' ++ lb g m1 m2) V V.drew := Turn.below _ (Below.refl _ _).drew
        obtain ⟨h4, t4⟩ := H3.newKept (hv.trans (Turn.below _ HB.out)) HM.out (fun h3 => by have := LD.out.lt h3; have := HW.out; omega) HW.out q
        rw [hE0, R1.out]
        exact ⟨rfl, b', m1, m, h4, (HT.out.trans HS.out.2).trans t4⟩
    · have hE0 : E ≠ 0 := by rename_i hE; simpa using hE
      go_ret
      rw [r1.out, if_neg hE0]
      exact ⟨rfl, b', m1, m2, HL2.out, HT.out⟩
  · have r1 : R.commit n t p = R := if_neg hp
    have r2 : R.commitE n t p = 1 := if_neg hp
    rw [r1, r2]
    have HL := Lib.hid h
    clear h hfit
    by_cases h1 : 1 ≤ p
    · have d1 : decide (p < 1) = false := by simp; omega
      have d2 : decide ((65536 : Int) < p) = true := by simp; omega
      clear hp h1 hs hnum hnf
      go_enter Try.func19, Try.ntmps19
      go_wp2_with fail
      go_ret
      refine ⟨rfl, b, m1, m2, HL.out.below ?_, Turn.below _ ?_⟩ <;> exact ((((Below.refl _ _).alloc (Nat.le_refl _) _).alloc (by simp) _).alloc (by simp; omega) _).alloc (by simp; omega) _
    · have d1 : decide (p < 1) = true := by simp; omega
      clear hp h1 hs hnum hnf
      go_enter Try.func19, Try.ntmps19
      go_wp2_with fail
      go_ret
      refine ⟨rfl, b, m1, m2, HL.out.below ?_, Turn.below _ ?_⟩ <;> exact ((((Below.refl _ _).alloc (Nat.le_refl _) _).alloc (by simp) _).alloc (by simp; omega) _).alloc (by simp; omega) _

end Go.Proofs.Ytjihboddejaelaa
