/-
  Append of package wal.
-/
import Derived.Test.YtjihboddejaelaaLog9
namespace Go.Proofs.Ytjihboddejaelaa
open Go.RowKit
open Go.BigFrame
open Go.Maps
set_option linter.unusedVariables false
set_option linter.unusedSimpArgs false

def Rw.at_ (R : Rw) : Nat := 64 + 1028 * R.nf
def frB (n : Int) (t : ByteArray) : ByteArray := bsOf (Fr.bytes ⟨n.toNat, t⟩)
def appFits (n : Int) (t : ByteArray) : Prop := 0 ≤ n ∧ n ≤ 2147483647 ∧ t.size = 1024
instance (n : Int) (t : ByteArray) : Decidable (appFits n t) := by unfold appFits; infer_instance
def Rw.app (R : Rw) (n : Int) (t : ByteArray) : Rw :=
  if appFits n t ∧ R.at_ + 1028 ≤ 67108864 then
    if R.D.writeE 1 R.at_ (frB n t) = 0 then { R with D := R.D.write 1 R.at_ (frB n t), nf := R.nf + 1, f1 := fun y => if y = n then R.nf + 1 else R.f1 y }
    else { R with D := R.D.write 1 R.at_ (frB n t) }
  else R
def Rw.appE (R : Rw) (n : Int) (t : ByteArray) : Int := if appFits n t then (if R.at_ + 1028 ≤ 67108864 then R.D.writeE 1 R.at_ (frB n t) else 8) else 1
theorem MP.mono {w : World} {b n m : Nat} {f : Int → Nat} (h : MP w b n f) (hn : n ≤ m) : MP w b m f := by
  obtain ⟨D, h1, h2⟩ := h
  exact ⟨D, h1.mono hn, h2⟩
theorem LR.onMap1 {w w' : World} {b : List (Option Nat)} {gd g m1 m2 : Nat} {R : Rw} (h : LR w b gd g m1 m2 R) (hg : w.grownBy w' (some m1)) (R' : Rw) (hc : rwCells gd m1 m2 R = rwCells gd m1 m2 R') (hD : R'.D = R.D) (h1 : MP w' m1 R'.nf R'.f1) (h2 : MP w m2 R'.kf R'.f2) :
    LR w' b gd g m1 m2 R' ∧ Turn (b ++ lb g m1 m2) (b ++ lb g m1 m2) w w' := by
  have ht := Turn.grown hg
  refine ⟨⟨hD ▸ h.disk.turn ht fun k hk h2 => ?_, hc ▸ h.has.grown hg (fun e => h.ne1 (Option.some.inj e)), h1, h2.turn ht fun h3 => ?_, h.ne, h.apart⟩, ht.wide (fun k hk => ?_) (fun k hk => .inr hk)⟩
  · have : k = m1 := by simpa using hk
    subst this
    exact h.off.2.1 h2
  · exact h.ne (by simpa using h3 : m2 = m1).symm
  · have : k = m1 := by simpa using hk
    exact List.mem_append_right _ (mem_lb.2 (.inr (.inl this)))
theorem LinkPost.refl {u : World} {b : List (Option Nat)} {gd g m1 m2 : Nat} {R : Rw} {E : Int} (h : LR u b gd g m1 m2 R) : LinkPost u b gd g m1 m2 R E (.returned (.int .i64 E)) u := ⟨rfl, b, h, Turn.refl _ _⟩

set_option maxRecDepth 100000 in
set_option maxHeartbeats 3200000 in
theorem wal_Append (b : List (Option Nat)) (gd g m1 m2 : Nat) (R : Rw) (n : Int) (t : ByteArray) (w : World) (h : LR w b gd g m1 m2 R) (hfit : Fit R.D 1) (hnf : R.nf ≤ 100000) :
    Calls Try.prog 17 #[.pointer (some ⟨g, 0, none⟩), .int .i64 n, .string t] w (LinkPost w b gd g m1 m2 (R.app n t) (R.appE n t)) := by
  have HL := Lib.hid h
  have x0 := h.cell0
  have x1 : w.cell? ⟨g, 1, none⟩ = some (.int .i64 R.nf) := h.has.cell 1
  have x3 : w.cell? ⟨g, 3, none⟩ = some (.map (some m1)) := h.has.cell 3
  have xf := h.has.frozen
  have HF := Lib.hid hfit
  clear h hfit
  by_cases hA : appFits n t
  · by_cases hr : R.at_ + 1028 ≤ 67108864
    · have EA := Lib.hid (show R.app n t = if R.D.writeE 1 R.at_ (frB n t) = 0 then { R with D := R.D.write 1 R.at_ (frB n t), nf := R.nf + 1, f1 := fun y => if y = n then R.nf + 1 else R.f1 y } else { R with D := R.D.write 1 R.at_ (frB n t) } from if_pos ⟨hA, hr⟩)
      have EE := Lib.hid (show R.appE n t = R.D.writeE 1 R.at_ (frB n t) by unfold Rw.appE; rw [if_pos hA, if_pos hr])
      rw [EE.out]
      obtain ⟨h1, h2, h3⟩ := hA
      unfold Rw.at_ at hr
      have TP := Lib.hid (fun b1 w1 (h1 : DP w1 b1 gd R.D) => disk_Write gd R.D b1 1 R.at_ (frB n t) w1 h1 HF.out.ok (by have := HF.out.count; omega) (by have := HF.out.waits; omega) (by unfold frB; rw [bsOf_size, Fr.bytes_len _ h3]; omega))
      have FO := Lib.hid (wal_four n.toNat (by omega))
      have HS := Lib.hid (show frB n t = bsOf (beK n.toNat 4) ++ t by unfold frB Fr.bytes; rw [← bsOf_append, bsOf_of])
      rw [HS.out] at TP EA EE ⊢
      obtain ⟨s1, hs1⟩ : ∃ s, bsOf (beK n.toNat 4) = s := ⟨_, rfl⟩
      have z1 : s1.size = 4 := by rw [← hs1, bsOf_size, beK_len]
      rw [hs1] at TP FO EA EE ⊢
      rw [show ((n.toNat : Nat) : Int) = n from Int.toNat_of_nonneg h1] at FO
      obtain ⟨E, hE⟩ : ∃ x, R.D.writeE 1 R.at_ (s1 ++ t) = x := ⟨_, rfl⟩
      obtain ⟨D', hD⟩ : ∃ x, R.D.write 1 R.at_ (s1 ++ t) = x := ⟨_, rfl⟩
      rw [hE, hD] at TP EA
      rw [hE]
      have H3 := Lib.hid h3
      have z3 : (t.size : Int) = 1024 := by omega
      have H1 := Lib.hid h1; have H2 := Lib.hid h2; have HR := Lib.hid hr
      have d1 : decide (n < 0) = false := by simp; omega
      have d2 : decide ((2147483648 : Int) ≤ n) = false := by simp; omega
      have d3 : decide ((67108864 : Int) < 64 + (R.nf : Int) * 1028 + 1028) = false := by simp; omega
      clear hE hD HS hs1 EE h3 h1 h2 hr
      go_enter Try.func17, Try.ntmps17
      go_wp2_with fail
      have HLD := Lib.hid (HL.out.below (Below.refl _ _).drew)
      have HB := Lib.hid ((Below.refl w.heap.size w).drew)
      rw [show ((R.at_ : Nat) : Int) = 64 + (R.nf : Int) * 1028 by unfold Rw.at_; omega] at TP
      go_region_with
        (first | (go_at_call 67; (with_reducible refine (FO.out _).mono ?_); rintro e w1 ⟨rfl, hb1⟩; have HL1 := Lib.hid (HLD.out.below hb1); have HB1 := Lib.hid (bel_step HB.out hb1 HB.out.size); have y1 := HL1.out.cell0) | (go_at_call 51; (with_reducible refine (TP.out _ _ HL1.out.disk).mono ?_); rintro e w2 ⟨rfl, b2, hd2, ht2⟩; obtain ⟨hl2, ht3⟩ := HL1.out.onDisk hd2 ht2; have HL2 := Lib.hid hl2; have HT2 := Lib.hid ((Turn.below _ HB1.out).trans ht3); have y0 := hl2.cell0; clear hd2 ht2 hl2 ht3 hb1))
      all_goals
        by_cases hE0 : E = 0
        · subst hE0
          have EA2 := Lib.hid (EA.out.trans (if_pos rfl))
          have y1 : w2.cell? ⟨g, 1, none⟩ = some (.int .i64 R.nf) := HL2.out.has.cell 1
          have y3 : w2.cell? ⟨g, 3, none⟩ = some (.map (some m1)) := HL2.out.has.cell 3
          have yf := HL2.out.has.frozen
          have yz := HL2.out.has.lt
          have HSET := Lib.hid (HL2.out.set 1 (.int .i64 (R.nf + 1 : Nat)) { R with D := D', nf := R.nf + 1 } rfl rfl (HL2.out.map1.mono (Nat.le_succ _)) HL2.out.map2)
          rw [show ((R.nf + 1 : Nat) : Int) = (R.nf : Int) + 1 from rfl] at HSET
          have HM1 := Lib.hid (show MP (w2.setCell ⟨g, 1, none⟩ (.int .i64 ((R.nf : Int) + 1))) m1 R.nf R.f1 from HL2.out.map1.block (Below.heap_setCell _ _ _ _ HL2.out.ne1.symm))
          clear EA x0 x1 x3 xf y0 HLD HB HL1 HB1
          go_upto_region 10 with fail
          have WN := Lib.hid (wfI (x := n) (by have := H1.out; omega) (by have := H2.out; omega))
          obtain ⟨w3, hrun, hm3, hg3⟩ := (show MP (w2.setCell ⟨g, 1, none⟩ (.int .i64 ((R.nf : Int) + 1))).drew m1 R.nf R.f1 from HM1.out.block rfl).put (by omega) n (R.nf + 1) WN.out (by omega)
          rw [show ((R.nf + 1 : Nat) : Int) = (R.nf : Int) + 1 from rfl] at hrun
          have HM3 := Lib.hid hm3
          have HG3 := Lib.hid hg3
          clear hm3 hg3
          go_region
          all_goals
            go_wp2_with fail
            go_ret
            obtain ⟨h5, t5⟩ := (HSET.out.1.below (Below.refl _ _).drew).onMap1 HG3.out (R.app n t) (by rw [EA2.out]; rfl) (by rw [EA2.out]) (by rw [EA2.out]; exact HM3.out) (by rw [EA2.out]; exact (HSET.out.1.below (Below.refl _ _).drew).map2)
            exact ⟨rfl, b2, h5, ((HT2.out.trans HSET.out.2).trans (Turn.below _ (Below.refl _ _).drew)).trans t5⟩
        · go_wp2_with fail
          go_ret
          rw [EA.out, if_neg hE0]
          exact ⟨rfl, b2, HL2.out, HT2.out⟩
    · have EE := Lib.hid (show R.app n t = R ∧ R.appE n t = 8 from ⟨if_neg (fun h => hr h.2), by unfold Rw.appE; rw [if_pos hA, if_neg hr]⟩)
      rw [EE.out.1, EE.out.2]
      obtain ⟨h1, h2, h3⟩ := hA
      unfold Rw.at_ at hr
      have z3 : (t.size : Int) = 1024 := by omega
      have d1 : decide (n < 0) = false := by simp; omega
      have d2 : decide ((2147483648 : Int) ≤ n) = false := by simp; omega
      have d3 : decide ((67108864 : Int) < 64 + (R.nf : Int) * 1028 + 1028) = true := by simp; omega
      clear EE h3 h1 h2 hr
      go_enter Try.func17, Try.ntmps17
      go_wp2_with fail
      go_ret
      exact LinkPost.refl HL.out
  · have EE := Lib.hid (show R.app n t = R ∧ R.appE n t = 1 from ⟨if_neg (fun h => hA h.1), by unfold Rw.appE; rw [if_neg hA]⟩)
    rw [EE.out.1, EE.out.2]
    clear EE
    unfold appFits at hA
    by_cases h1 : 0 ≤ n
    · have d1 : decide (n < 0) = false := by simp; omega
      by_cases h2 : n ≤ 2147483647
      · have d2 : decide ((2147483648 : Int) ≤ n) = false := by simp; omega
        have d3 : ((t.size : Int) != 1024) = true := by
          rw [bne_iff_ne]; intro e; exact hA ⟨h1, h2, by omega⟩
        clear hA h1 h2
        go_enter Try.func17, Try.ntmps17
        go_wp2_with fail
        go_ret
        exact LinkPost.refl HL.out
      · have d2 : decide ((2147483648 : Int) ≤ n) = true := by simp; omega
        clear hA h1 h2
        go_enter Try.func17, Try.ntmps17
        go_wp2_with fail
        go_ret
        exact LinkPost.refl HL.out
    · have d1 : decide (n < 0) = true := by simp; omega
      clear hA h1
      go_enter Try.func17, Try.ntmps17
      go_wp2_with fail
      go_ret
      exact LinkPost.refl HL.out

end Go.Proofs.Ytjihboddejaelaa
