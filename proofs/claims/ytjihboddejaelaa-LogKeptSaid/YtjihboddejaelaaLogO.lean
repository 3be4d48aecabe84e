/-
  Open of package wal, over a disk that does not fail.
-/
import Derived.Test.YtjihboddejaelaaLog16
import Derived.Test.YtjihboddejaelaaLog13
namespace Go.Proofs.Ytjihboddejaelaa
open Go.RowKit
open Go.BigFrame
open Go.Maps
set_option linter.unusedVariables false
set_option linter.unusedSimpArgs false

theorem make_none2 (w : World) : (Instr.makeMap 102 none).run Try.prog w = .ok (.map (some w.heap.size)) (w.alloc (.map #[] 0)) := rfl
def halfCells (gd m2 kf kp sl nu : Nat) : Array Value := #[.pointer (some ⟨gd, 0, none⟩), .int .i64 0, .int .i64 0, .map none, .int .i64 kf, .int .i64 kp, .map (some m2), .int .i64 sl, .int .i64 nu]
/-- a log that is being opened: its place 'now' stands empty -/
structure Half (w : World) (b : List (Option Nat)) (gd g m2 : Nat) (D : Dk) (kf kp sl nu n : Nat) (f2 : Int → Nat) : Prop where
  disk : DP w b gd D
  has : Has w g 106 (halfCells gd m2 kf kp sl nu)
  map2 : MP w m2 n f2
  offg : some g ∉ b
  offm : some m2 ∉ b
section
variable {w w' : World} {b b' : List (Option Nat)} {gd g m2 kf kp sl nu n : Nat} {D D' : Dk} {f2 : Int → Nat}
theorem Half.below (h : Half w b gd g m2 D kf kp sl nu n f2) (hb : Below w.heap.size w w') : Half w' b gd g m2 D kf kp sl nu n f2 :=
  ⟨h.disk.below hb, h.has.belowS hb, h.map2.below hb, h.offg, h.offm⟩
theorem Half.ne (h : Half w b gd g m2 D kf kp sl nu n f2) : g ≠ m2 := has_map h.has h.map2
theorem Half.put (h : Half w b gd g m2 D kf kp sl nu n f2) {n' : Nat} {f' : Int → Nat} (hm : MP w' m2 n' f') (hg : w.grownBy w' (some m2)) : Half w' b gd g m2 D kf kp sl nu n' f' := by
  have ht := Turn.grown hg
  refine ⟨h.disk.turn ht fun k hk h2 => ?_, h.has.grown hg (fun e => h.ne (Option.some.inj e)), hm, h.offg, h.offm⟩
  have : k = m2 := by simpa using hk
  subst this; exact h.offm h2
theorem Half.lt (h : Half w b gd g m2 D kf kp sl nu n f2) {k : Nat} (hk : some k ∈ b ++ [some g, some m2]) : k < w.heap.size := by
  rcases List.mem_append.1 hk with h2 | h2
  · exact h.disk.lt h2
  · simp at h2
    rcases h2 with rfl | rfl
    · exact h.has.lt
    · exact h.map2.lt
/-- now has been set: the log is there -/
theorem Half.log {w0 : World} {c : List (Option Nat)} {m : Nat} (h : Half w b gd g m2 D kf kp sl nu kf f2) (ht : Turn c (b ++ [some g, some m2]) w0 w) (hm : MP w m kf f2) (hoff : some m ∉ b ++ [some g, some m2]) (hlow : w0.heap.size ≤ m) :
    LR (((w.setCell ⟨g, 1, none⟩ (.int .i64 kf)).setCell ⟨g, 2, none⟩ (.int .i64 kp)).setCell ⟨g, 3, none⟩ (.map (some m))) b gd g m m2 ⟨D, kf, kp, f2, kf, kp, f2, sl, nu⟩ ∧
    Turn c (b ++ lb g m m2) w0 (((w.setCell ⟨g, 1, none⟩ (.int .i64 kf)).setCell ⟨g, 2, none⟩ (.int .i64 kp)).setCell ⟨g, 3, none⟩ (.map (some m))) := by
  have t1 : Turn [some g] [some g] w (((w.setCell ⟨g, 1, none⟩ (.int .i64 kf)).setCell ⟨g, 2, none⟩ (.int .i64 kp)).setCell ⟨g, 3, none⟩ (.map (some m))) := ((Turn.cell g 1 _ w).trans (Turn.cell g 2 _ _)).trans (Turn.cell g 3 _ _)
  have hg : some g ∈ b ++ [some g, some m2] := List.mem_append_right _ (by simp)
  have hmg : m ≠ g := by rintro rfl; exact hoff hg
  have hm2 : m ≠ m2 := by rintro rfl; exact hoff (List.mem_append_right _ (by simp))
  refine ⟨⟨h.disk.turn t1 fun k hk h2 => ?_, ((h.has.set 1 _).set 2 _).set 3 _, hm.turn t1 fun h3 => hmg (by simpa using h3), h.map2.turn t1 fun h3 => h.ne (by simpa using h3 : m2 = g).symm, hm2, fun k hk h2 => ?_⟩, ?_⟩
  · have : k = g := by simpa using hk
    subst this; exact h.offg h2
  · rcases mem_lb.1 h2 with rfl | rfl | rfl
    · exact h.offg hk
    · exact hoff (List.mem_append_left _ hk)
    · exact h.offm hk
  · refine ht.trans' t1 (fun k hk => ?_) (fun k hk => ?_)
    · have : k = g := by simpa using hk
      subst this; exact hg
    · rcases List.mem_append.1 hk with h2 | h2
      · exact .inl (List.mem_append_left _ h2)
      · rcases mem_lb.1 h2 with rfl | rfl | rfl
        · exact .inl hg
        · exact .inr hlow
        · exact .inl (List.mem_append_right _ (by simp))
end
def OpenPost (w : World) (b : List (Option Nat)) (gd : Nat) (R : Rw) (e : Ending) (w' : World) : Prop :=
  ∃ g b' m1 m2, e = .returned (.tuple #[.pointer (some ⟨g, 0, none⟩), .int .i64 0]) ∧ LR w' b' gd g m1 m2 R ∧ Turn b (b' ++ lb g m1 m2) w w'
theorem anewD_begin (D : Dk) : anewD D = beginD D ((D.seen 0).length / 1024) 4 := rfl
theorem frameN_read {l : List UInt8} {s : ByteArray} (hs : bsOf l = s) (k : Nat) : ((frameAt l k).n : Nat) = unK ((s.extract (64 + 1028 * k) s.size).data.toList.take 4) := by
  rw [← hs, extr_part, bsOf_list, bsOf_list, bsOf_size]
  show unK (partL l (64 + 1028 * k) 4) = unK ((partL l (64 + 1028 * k) (l.length - (64 + 1028 * k))).take 4)
  congr 1
  unfold partL
  rw [List.take_take]
  by_cases h : 4 ≤ l.length - (64 + 1028 * k)
  · rw [Nat.min_eq_left h]
  · rw [List.take_of_length_le (by rw [List.length_drop]; omega), List.take_of_length_le (by rw [List.length_drop]; omega)]
theorem open_start (b : List (Option Nat)) (gd p0 : Nat) (D : Dk) (w : World) (h : DP w b gd D) :
    Half ((w.alloc (.map #[] 0)).alloc (.cells #[.pointer (some ⟨gd, 0, none⟩), .int .i64 0, .int .i64 0, .map none, .int .i64 0, .int .i64 p0, .map (some w.heap.size), .int .i64 0, .int .i64 0] 106)) b gd (w.heap.size + 1) w.heap.size D 0 p0 0 0 0 (fun _ => 0) ∧
    Below w.heap.size w ((w.alloc (.map #[] 0)).alloc (.cells #[.pointer (some ⟨gd, 0, none⟩), .int .i64 0, .int .i64 0, .map none, .int .i64 0, .int .i64 p0, .map (some w.heap.size), .int .i64 0, .int .i64 0] 106)) := by
  have b1 : Below w.heap.size w (w.alloc (.map #[] 0)) := (Below.refl _ _).alloc (Nat.le_refl _) _
  have b2 : Below w.heap.size w ((w.alloc (.map #[] 0)).alloc (.cells #[.pointer (some ⟨gd, 0, none⟩), .int .i64 0, .int .i64 0, .map none, .int .i64 0, .int .i64 p0, .map (some w.heap.size), .int .i64 0, .int .i64 0] 106)) := b1.alloc (by simp) _
  have hn := Has.new (w.alloc (.map #[] 0)) 106 #[.pointer (some ⟨gd, 0, none⟩), .int .i64 0, .int .i64 0, .map none, .int .i64 0, .int .i64 p0, .map (some w.heap.size), .int .i64 0, .int .i64 0]
  rw [World.size_alloc] at hn
  exact ⟨⟨h.below b2, hn, (MP.made w).below ((Below.refl _ _).alloc (Nat.le_refl _) _), fun h3 => by have := h.lt h3; omega, fun h3 => by have := h.lt h3; omega⟩, b2⟩

theorem open_turn {B : Nat} {w W w2 : World} {b b2 : List (Option Nat)} {g m2 : Nat} (hB : w.heap.size = B) (hb : Below B w W) (ht : Turn (b ++ [some g]) (b2 ++ [some g]) W w2) (hg : w.heap.size ≤ g) (hm : w.heap.size ≤ m2) : Turn b (b2 ++ [some g, some m2]) w w2 := by
  subst hB
  refine ⟨ht.os.trans hb.os, ht.tape.trans hb.tape, ht.output.trans hb.output, Nat.le_trans hb.size ht.size, fun k hk hn => (ht.block k (Nat.lt_of_lt_of_le hk hb.size) (fun h => ?_)).trans (hb.block k hk), fun k hk => ?_⟩
  · rcases List.mem_append.1 h with h2 | h2
    · exact hn h2
    · have : k = g := by simpa using h2
      omega
  · rcases List.mem_append.1 hk with h2 | h2
    · rcases ht.new k (List.mem_append_left _ h2) with h3 | h3
      · rcases List.mem_append.1 h3 with h4 | h4
        · exact .inl h4
        · have : k = g := by simpa using h4
          exact .inr (by omega)
      · exact .inr (Nat.le_trans hb.size h3)
    · have : k = g ∨ k = m2 := by simpa using h2
      exact .inr (by omega)
theorem lastAt_take {fs : List Fr} {k : Nat} (hk : k < fs.length) {f : Fr} (hf : fs[k]? = some f) (x : Int) (hx : (f.n : Int) = x) : (fun y => if y = x then k + 1 else lastAt (fs.take k) y) = fun y => lastAt (fs.take (k + 1)) y := by
  funext y
  obtain ⟨h1, h2⟩ := List.getElem?_eq_some_iff.1 hf
  rw [List.take_succ_eq_append_getElem h1, h2, lastAt_snoc, hx, List.length_take, Nat.min_eq_left (by omega)]
  by_cases h : y = x
  · rw [if_pos h, if_pos h.symm]
  · rw [if_neg h, if_neg (fun e => h e.symm)]
theorem readS_all2 {D : Dk} (hok : D.ok) {f : Nat} (hf : f < 2) (hd : D.down = false) : D.readS f 0 (D.seen f).length = bsOf (D.seen f) ∧ D.readE f 0 (D.seen f).length = 0 := by
  have hl := hok.seen f
  have hF : fitsF f 0 (D.seen f).length := by unfold fitsF; omega
  refine ⟨(if_pos ⟨hF, hd, by simp⟩).trans (by simp), ?_⟩
  unfold Dk.readE
  rw [if_pos hF, if_neg (by rw [hd]; decide), if_pos (by simp)]

set_option maxRecDepth 100000 in
set_option maxHeartbeats 6400000 in
theorem wal_Open2 (b : List (Option Nat)) (gd : Nat) (D : Dk) (w : World) (h : DP w b gd D) (hfit : Fit D 4) (hd : D.down = false) (hc : slotIx (D.seen 1) = 2 → D.calm) :
    Calls Try.prog 12 #[.pointer (some ⟨gd, 0, none⟩)] w (OpenPost w b gd (Lg.opened D).rw) := by
  have s0 : D.sizeN 0 = ((D.seen 0).length : Int) ∧ D.sizeE 0 = 0 := ⟨if_pos ⟨by omega, by omega, hd⟩, (if_pos (by omega)).trans (if_neg (by rw [hd]; decide))⟩
  have s1 : D.sizeN 1 = ((D.seen 1).length : Int) ∧ D.sizeE 1 = 0 := ⟨if_pos ⟨by omega, by omega, hd⟩, (if_pos (by omega)).trans (if_neg (by rw [hd]; decide))⟩
  have s2 := readS_all2 hfit.ok (f := 1) (by omega) hd
  have T0 := Lib.hid (disk_Size gd D b 0 w h hfit.ok)
  have T1 := Lib.hid (disk_Size gd D b 1 w h hfit.ok)
  have T2 := Lib.hid (disk_Read gd D b 1 0 (D.seen 1).length w h hfit.ok)
  rw [s0.1, s0.2] at T0
  rw [s1.1, s1.2] at T1
  rw [show ((1 : Nat) : Int) = 1 from rfl] at s2
  rw [s2.1, s2.2] at T2
  have l0 := hfit.ok.seen 0
  have l1 := hfit.ok.seen 1
  have OP := Lib.hid (open_start b gd ((D.seen 0).length / 1024) D w h)
  have LO := Lib.hid (opened_ok hfit.ok)
  obtain ⟨n0, hn0⟩ : ∃ n, (D.seen 0).length = n := ⟨_, rfl⟩
  obtain ⟨l, hl⟩ : ∃ l, D.seen 1 = l := ⟨_, rfl⟩
  obtain ⟨s, hs⟩ : ∃ s, bsOf l = s := ⟨_, rfl⟩
  have hz : s.size = l.length := by rw [← hs, bsOf_size]
  have ht : s.data.toList = l := by rw [← hs, bsOf_list]
  rw [hl] at T1 T2 l1
  rw [hs] at T2
  rw [hn0] at T0 l0 OP
  rw [← hz] at T1 T2 l1
  have LA := Lib.hid (fun (p0 : Nat) w1 (h1 : Has w1 (w.heap.size + 1) 106 (lastCells gd (.int .i64 0) (.int .i64 0) (.map none) (.map (some w.heap.size)) ⟨0, 0, 0, p0⟩)) => wal_last (w.heap.size + 1) gd p0 _ _ _ _ s w1 h1 l1)
  rw [ht] at LA
  have HS := Lib.hid hs
  have HL := Lib.hid hl
  have N0 := Lib.hid hn0
  have L0 := Lib.hid l0
  have L1 := Lib.hid l1
  have HZ := Lib.hid hz
  have HF := Lib.hid hfit
  have HC := Lib.hid hc
  have wr0 : wrap64 ((n0 : Int) / 1024) = ((n0 / 1024 : Nat) : Int) := (IntWalk.wrap64_in _ (by omega)).trans (by omega)
  have hmm := make_none2
  obtain ⟨p0, hp0⟩ : ∃ p, n0 / 1024 = p := ⟨_, rfl⟩
  have hp1 : p0 ≤ 65536 := by omega
  rw [hp0] at OP wr0
  have P0 := Lib.hid hp0
  have P1 := Lib.hid hp1
  clear s0 s1 s2 h hfit hd hc hn0 hl hs hz ht l0 l1 hp0 hp1
  go_enter Try.func12, Try.ntmps12
  go_upto_region 11 with (first | (go_at_call 55; (with_reducible refine T0.out.mono ?_); rintro e w1 ⟨rfl, rfl⟩) | (go_at_call 55; (with_reducible refine T1.out.mono ?_); rintro e w1 ⟨rfl, rfl⟩) | (go_at_call 49; (with_reducible refine T2.out.mono ?_); rintro e w1 ⟨rfl, rfl⟩))
  obtain ⟨g, hg⟩ : ∃ g, w.heap.size + 1 = g := ⟨_, rfl⟩
  obtain ⟨m2, hm2⟩ : ∃ g, w.heap.size = g := ⟨_, rfl⟩
  obtain ⟨W, hW⟩ : ∃ W, ((w.alloc (.map #[] 0)).alloc (.cells #[.pointer (some ⟨gd, 0, none⟩), .int .i64 0, .int .i64 0, .map none, .int .i64 0, .int .i64 p0, .map (some w.heap.size), .int .i64 0, .int .i64 0] 106)) = W := ⟨_, rfl⟩
  have OQ := Lib.hid OP.out
  clear OP
  rw [hW, hg] at OQ
  rw [hg] at LA
  rw [hW, hg]
  have HWS := Lib.hid hm2
  have HGS := Lib.hid hg
  clear hW hg
  rw [hm2] at OQ LA ⊢
  clear hm2
  have LW := Lib.hid (LA.out p0 W OQ.out.1.has)
  clear LA hmm wr0
  by_cases hx : slotIx l = 2
  · have E0 := lastOf_none (p0 := p0) hx
    have HX0 := Lib.hid hx
    rw [E0] at LW
    obtain ⟨D', hD'⟩ : ∃ D', beginD D p0 4 = D' := ⟨_, rfl⟩
    obtain ⟨kf, hkf⟩ : ∃ k : Nat, k = 0 := ⟨_, rfl⟩
    obtain ⟨kp, hkp⟩ : ∃ k : Nat, k = p0 := ⟨_, rfl⟩
    obtain ⟨sl, hsl⟩ : ∃ k : Nat, k = 0 := ⟨_, rfl⟩
    obtain ⟨nu, hnu⟩ : ∃ k : Nat, k = 1 := ⟨_, rfl⟩
    obtain ⟨fs, hfs⟩ : ∃ f : List Fr, f = [] := ⟨_, rfl⟩
    have ER := Lib.hid (show (Lg.opened D).rw = ⟨D', kf, kp, fun x => lastAt (fs.take kf) x, kf, kp, fun x => lastAt (fs.take kf) x, sl, nu⟩ by
      have e1 : Lg.opened D = ⟨anewD D, [], 0, (D.seen 0).length / 1024, 0, 1⟩ := if_pos (by rw [HL.out]; exact hx)
      have e2 : anewD D = D' := by rw [← hD', ← P0.out, ← N0.out]; rfl
      rw [e1, e2, N0.out, P0.out, hkf, hkp, hsl, hnu, hfs]; rfl)
    have HKF := Lib.hid (show kf ≤ 100000 by omega)
    have BG := Lib.hid (fun w1 (h1 : DP w1 b gd D) (h2 : Has w1 g 106 (lastCells gd (.int .i64 0) (.int .i64 0) (.map none) (.map (some m2)) ⟨0, 0, 0, p0⟩)) => wal_begin b gd g p0 D _ _ _ _ _ _ _ w1 h1 h2 OQ.out.1.offg HF.out (HC.out (by rw [HL.out]; exact HX0.out)) (by have := P1.out; omega))
    rw [hD'] at BG
    have K0 := Lib.hid hkf; have K1 := Lib.hid hkp; have K2 := Lib.hid hsl; have K3 := Lib.hid hnu
    clear E0 hx hD' hkf hkp hsl hnu hfs
    go_wp2_with (first | (go_at_call 63; (with_reducible refine LW.out.mono ?_); rintro e w1 ⟨rfl, hh, ht⟩; have HH1 := Lib.hid hh; have HT1 := Lib.hid ht; clear hh ht) | (go_at_call 64; (refine (BG.out _ (OQ.out.1.disk.turn HT1.out (fun k hk h3 => OQ.out.1.offg ((show k = g by simpa using hk) ▸ h3))) HH1.out).mono ?_); rintro e w2 ⟨rfl, b2, hd2, hh2, ht2, ho2⟩; have TT := Lib.hid ((HT1.out.right b).trans ht2); have HALF := Lib.hid (show Half w2 b2 gd g m2 D' kf kp sl nu 0 (fun x => lastAt (fs.take 0) x) from by rw [K0.out, K1.out, K2.out, K3.out]; exact ⟨hd2, hh2, OQ.out.1.map2.turn TT.out (fun h3 => (List.mem_append.1 h3).elim OQ.out.1.offm (fun h4 => OQ.out.1.ne (show m2 = g by simpa using h4).symm)), ho2, fun h3 => (TT.out.new m2 (List.mem_append_left _ h3)).elim (fun h5 => (List.mem_append.1 h5).elim OQ.out.1.offm (fun h4 => OQ.out.1.ne (show m2 = g by simpa using h4).symm)) (fun h5 => by have := OQ.out.1.map2.lt; omega)⟩); have y4 : w2.cell? ⟨g, 4, none⟩ = some (.int .i64 0) := hh2.cell 4; have gz := hh2.lt; clear hd2 hh2 ht2 ho2))
    have HT := Lib.hid (open_turn (m2 := m2) HWS.out OQ.out.2 TT.out (by have := HGS.out; omega) (by have := HWS.out; omega))
    go_loopw [56] (fun v56 wr => ∃ k : Nat, k ≤ kf ∧ v56 = .int .i64 k ∧ Half wr b2 gd g m2 D' kf kp sl nu k (fun x => lastAt (fs.take k) x) ∧ Turn b (b2 ++ [some g, some m2]) w wr) (fun v56 _ => kf - (intOf v56).toNat)
    case atStart => exact ⟨0, Nat.zero_le _, rfl, HALF.out, HT.out⟩
    case round =>
      obtain ⟨k, hk, rfl, hh, ht⟩ := hrel
      have HH := Lib.hid hh
      have HTT := Lib.hid ht
      clear hh ht HALF HT
      by_cases hk2 : k < kf
      · exact absurd hk2 (by have := K0.out; omega)
      · have hk3 : k = kf := by omega
        subst hk3
        have HD := Lib.hid HH.out
        have y6 : wr.cell? ⟨g, 6, none⟩ = some (.map (some m2)) := HH.out.has.cell 6
        have y5 : wr.cell? ⟨g, 5, none⟩ = some (.int .i64 kp) := HH.out.has.cell 5
        have y4 : wr.cell? ⟨g, 4, none⟩ = some (.int .i64 k) := HH.out.has.cell 4
        have gz := HH.out.has.lt
        have CP := Lib.hid (fun w1 (h1 : MP w1 m2 k (fun x => lastAt (fs.take k) x)) => wal_copied m2 k kp k _ w1 (by have := HKF.out; omega) h1)
        go_wp2_with ((go_at_call 66; refine (CP.out _ HD.out.map2).mono ?_); rintro e w3 ⟨m, rfl, hm, hlow, hb⟩; have HM := Lib.hid hm; have HW := Lib.hid hlow; have HB := Lib.hid hb; have hh3 := (HD.out.below hb).has; have c1 : w3.cell? ⟨g, 1, none⟩ = some (.int .i64 0) := hh3.cell 1; have c2 : w3.cell? ⟨g, 2, none⟩ = some (.int .i64 0) := hh3.cell 2; have c3 : w3.cell? ⟨g, 3, none⟩ = some (.map none) := hh3.cell 3; have y1 := hh3.lt; have yf := hh3.frozen; clear hm hlow hb hh3)
        go_ret2
        obtain ⟨h4, t4⟩ := (HD.out.below HB.out).log (Turn.below _ HB.out) HM.out (fun h3 => by have := HD.out.lt h3; have := HW.out; omega) HW.out
        refine ⟨g, b2, m, m2, rfl, ?_, HTT.out.trans t4⟩
        rw [ER.out]
        exact h4
  · have E0 := lastOf_some (p0 := p0) hx
    rw [E0] at LW
    obtain ⟨G1, G2, _⟩ := slotIx_good hx
    obtain ⟨G3, G4, G5⟩ := slotOf_good G2
    obtain ⟨D', hD'⟩ : ∃ D', D = D' := ⟨_, rfl⟩
    have e1 : Lg.opened D = ⟨D, framesOf l (slotOf l (slotIx l)).2.1, (slotOf l (slotIx l)).2.1, (slotOf l (slotIx l)).2.2, slotIx l, (slotOf l (slotIx l)).1⟩ := by
      rw [← HL.out]; exact if_neg (by rw [HL.out]; exact hx)
    obtain ⟨kf, hkf⟩ : ∃ k : Nat, (slotOf l (slotIx l)).2.1 = k := ⟨_, rfl⟩
    obtain ⟨kp, hkp⟩ : ∃ k : Nat, (slotOf l (slotIx l)).2.2 = k := ⟨_, rfl⟩
    obtain ⟨nu, hnu⟩ : ∃ k : Nat, (slotOf l (slotIx l)).1 = k := ⟨_, rfl⟩
    rw [hkf, hkp, hnu] at LW e1
    rw [hnu] at G2 G3
    rw [hkf] at G4
    obtain ⟨sl, hsl⟩ : ∃ k : Nat, slotIx l = k := ⟨_, rfl⟩
    rw [hsl] at LW e1
    obtain ⟨fs, hfs⟩ : ∃ f : List Fr, framesOf l kf = f := ⟨_, rfl⟩
    have LFS := Lib.hid (show fs.length = kf by rw [← hfs]; exact framesOf_len l kf)
    have HKL := Lib.hid (show ∀ k < kf, 64 + 1028 * k + 1028 ≤ s.size from fun k hk => by have := HZ.out; omega)
    have HFS := Lib.hid (show ∀ k < kf, fs[k]? = some (frameAt l k) from fun k hk => by
      have h1 : k < fs.length := by have := LFS.out; omega
      have h2 := List.getElem?_eq_getElem h1
      rw [h2]
      have h3 := framesOf_get l kf k fs[k] (by rw [hfs]; exact h2)
      rw [h3.2])
    have ER := Lib.hid (show (Lg.opened D).rw = ⟨D', kf, kp, fun x => lastAt (fs.take kf) x, kf, kp, fun x => lastAt (fs.take kf) x, sl, nu⟩ by
      rw [e1, hD', hfs]
      have h1 : fs.take kf = fs := List.take_of_length_le (by have := LFS.out; omega)
      exact rw_eq rfl LFS.out rfl (fun x => by show lastAt fs x = lastAt (fs.take kf) x; rw [h1]) rfl rfl (fun x => rfl) rfl rfl)
    have HKF := Lib.hid (show kf ≤ 100000 by have := HZ.out; have := L1.out; omega)
    have LW2 : Calls Try.prog 63 #[.pointer (some ⟨g, 0, none⟩), .string s] W (fun e w' => e = .returned (.bool true) ∧ Has w' g 106 (lastCells gd (.int .i64 0) (.int .i64 0) (.map none) (.map (some m2)) ⟨sl, nu, kf, kp⟩) ∧ Turn [some g] [some g] W w') := LW.out.mono fun e w' h => ⟨by rw [h.1]; show _ = Ending.returned (.bool true); rw [decide_eq_true (show 0 < nu by omega)], h.2⟩
    have HLW := Lib.hid LW2
    have OD := Lib.hid (show DP W b gd D' from hD' ▸ OQ.out.1.disk)
    clear LW LW2 E0 hx G1 G2 G3 G4 G5 hD' e1 hkf hkp hnu hsl hfs
    obtain ⟨b2, hb2⟩ : ∃ b2, b = b2 := ⟨_, rfl⟩
    have OF := Lib.hid (show some g ∉ b2 ∧ some m2 ∉ b2 from hb2 ▸ ⟨OQ.out.1.offg, OQ.out.1.offm⟩)
    rw [hb2] at OD
    have BB := Lib.hid hb2
    go_wp2_with (go_at_call 63; (with_reducible refine HLW.out.mono ?_); rintro e w1 ⟨rfl, hh, ht⟩; have TT := Lib.hid (ht.right b); have HALF := Lib.hid (show Half w1 b2 gd g m2 D' kf kp sl nu 0 (fun x => lastAt (fs.take 0) x) from ⟨OD.out.turn ht (fun k hk h3 => OF.out.1 ((show k = g by simpa using hk) ▸ h3)), hh, OQ.out.1.map2.turn ht (fun h4 => OQ.out.1.ne (show m2 = g by simpa using h4).symm), OF.out.1, OF.out.2⟩); have y4 : w1.cell? ⟨g, 4, none⟩ = some (.int .i64 kf) := hh.cell 4; have gz := hh.lt; clear hh ht)
    have HT := Lib.hid (show Turn b (b2 ++ [some g, some m2]) w w1 from hb2 ▸ open_turn (m2 := m2) HWS.out OQ.out.2 TT.out (by have := HGS.out; omega) (by have := HWS.out; omega))
    clear hb2
    go_loopw [56] (fun v56 wr => ∃ k : Nat, k ≤ kf ∧ v56 = .int .i64 k ∧ Half wr b2 gd g m2 D' kf kp sl nu k (fun x => lastAt (fs.take k) x) ∧ Turn b (b2 ++ [some g, some m2]) w wr) (fun v56 _ => kf - (intOf v56).toNat)
    case atStart => exact ⟨0, Nat.zero_le _, rfl, HALF.out, HT.out⟩
    case round =>
      obtain ⟨k, hk, rfl, hh, ht⟩ := hrel
      have HH := Lib.hid hh
      have HTT := Lib.hid ht
      clear hh ht HALF HT
      by_cases hk2 : k < kf
      · have w_k : (k : Int) < (kf : Int) := by omega
        have hkl := HKL.out k hk2
        have hf := HFS.out k hk2
        have NU := Lib.hid (wal_number (s.extract (64 + 1028 * k) s.size) (by rw [ByteArray.size_extract]; omega))
        rw [← frameN_read HS.out k] at NU
        obtain ⟨x, hx⟩ : ∃ x, (frameAt l k).n = x := ⟨_, rfl⟩
        have hxb : x < 4294967296 := by rw [← hx]; exact unK_lt 4 _ (by rw [partL_len]; have := HZ.out; omega)
        rw [hx] at NU
        have HX := Lib.hid hx
        have WX := Lib.hid (wfI (x := (x : Int)) (by omega) (by omega))
        have HD := Lib.hid (HH.out.below (Below.refl _ _).drew)
        have y6 : wr.cell? ⟨g, 6, none⟩ = some (.map (some m2)) := HH.out.has.cell 6
        have gz := HH.out.has.lt
        have kb : k ≤ 100000 := by have := HKF.out; omega
        have q1 : (64 : Int) + (k : Int) * 1028 ≤ (s.size : Int) := by omega
        have q2 : IntKind.i64.wrap (64 + IntKind.i64.wrap ((k : Int) * 1028)) = ((64 + 1028 * k : Nat) : Int) := by
          rw [IntWalk.i64_in ((k : Int) * 1028) (by omega), IntWalk.i64_in (64 + (k : Int) * 1028) (by omega)]; omega
        have TD := Lib.hid (HTT.out.trans (Turn.below _ (Below.refl wr.heap.size wr).drew))
        have LT := Lib.hid (lastAt_take (fs := fs) (k := k) (by have := LFS.out; omega) hf (x : Int) (by rw [← hx]))
        clear hx hf hkl
        go_upto_region 18 with fail
        go_region_with ((go_at_call 65; (refine (NU.out _).mono ?_); rintro e w1 ⟨rfl, hb1⟩; have HH1 := Lib.hid (HD.out.below hb1); have yy6 : w1.cell? ⟨g, 6, none⟩ = some (.map (some m2)) := HH1.out.has.cell 6; have yyz := HH1.out.has.lt; obtain ⟨w3, hrun, hm3, hg3⟩ := HH1.out.map2.put (by omega) (x : Int) (k + 1) WX.out (by omega); rw [show ((k + 1 : Nat) : Int) = (k : Int) + 1 from rfl] at hrun; have HH3 := Lib.hid (HH1.out.put hm3 hg3); have HT3 := Lib.hid ((TD.out.trans (Turn.below _ hb1)).trans ((Turn.grown hg3).wide (c := b2 ++ [some g, some m2]) (c' := b2 ++ [some g, some m2]) (fun j hj => List.mem_append_right _ (by rw [show j = m2 by simpa using hj]; simp)) (fun j hj => .inr hj))); clear hm3 hg3 hb1))
        all_goals
          go_wp2_with fail
          go_roundw
          case rel => exact ⟨k + 1, by omega, by simp, by have q := HH3.out; rw [LT.out] at q; exact q, HT3.out⟩
          case measure => simp [intOf]; omega
      · have hk3 : k = kf := by omega
        subst hk3
        have HD := Lib.hid HH.out
        have y6 : wr.cell? ⟨g, 6, none⟩ = some (.map (some m2)) := HH.out.has.cell 6
        have y5 : wr.cell? ⟨g, 5, none⟩ = some (.int .i64 kp) := HH.out.has.cell 5
        have y4 : wr.cell? ⟨g, 4, none⟩ = some (.int .i64 k) := HH.out.has.cell 4
        have gz := HH.out.has.lt
        have CP := Lib.hid (fun w1 (h1 : MP w1 m2 k (fun x => lastAt (fs.take k) x)) => wal_copied m2 k kp k _ w1 (by have := HKF.out; omega) h1)
        go_wp2_with ((go_at_call 66; refine (CP.out _ HD.out.map2).mono ?_); rintro e w3 ⟨m, rfl, hm, hlow, hb⟩; have HM := Lib.hid hm; have HW := Lib.hid hlow; have HB := Lib.hid hb; have hh3 := (HD.out.below hb).has; have c1 : w3.cell? ⟨g, 1, none⟩ = some (.int .i64 0) := hh3.cell 1; have c2 : w3.cell? ⟨g, 2, none⟩ = some (.int .i64 0) := hh3.cell 2; have c3 : w3.cell? ⟨g, 3, none⟩ = some (.map none) := hh3.cell 3; have y1 := hh3.lt; have yf := hh3.frozen; clear hm hlow hb hh3)
        go_ret2
        obtain ⟨h4, t4⟩ := (HD.out.below HB.out).log (Turn.below _ HB.out) HM.out (fun h3 => by have := HD.out.lt h3; have := HW.out; omega) HW.out
        refine ⟨g, b2, m, m2, rfl, ?_, HTT.out.trans t4⟩
        rw [ER.out]
        exact h4

theorem wal_Open (b : List (Option Nat)) (gd : Nat) (D : Dk) (w : World) (h : DP w b gd D) (hfit : Fit D 4) (hc : D.calm) :
    Calls Try.prog 12 #[.pointer (some ⟨gd, 0, none⟩)] w (OpenPost w b gd (Lg.opened D).rw) := wal_Open2 b gd D w h hfit hc.1 fun _ => hc

end Go.Proofs.Ytjihboddejaelaa
