/-
  begin of package wal, over a disk that does not fail.
-/
import Derived.Test.YtjihboddejaelaaLog11
namespace Go.Proofs.Ytjihboddejaelaa
open Go.RowKit
open Go.BigFrame
open Go.Maps
set_option linter.unusedVariables false
set_option linter.unusedSimpArgs false

/-- a disk that does not fail -/
def Dk.calm (D : Dk) : Prop := D.down = false ∧ D.fails = -1
section
variable {D : Dk}
theorem Dk.calm.go (h : D.calm) : ¬ D.stops := by
  unfold Dk.stops; rw [h.1, h.2]; decide
theorem Dk.calm.turn (h : D.calm) : D.turn.calm := by
  unfold Dk.turn; rw [if_neg h.go]
  refine ⟨h.1, ?_⟩
  show (if 0 < D.fails then D.fails - 1 else D.fails) = -1
  rw [h.2]; decide
theorem Dk.calm.turnE (h : D.calm) : D.turnE = 0 := if_neg h.go
theorem Dk.calm.change (h : D.calm) (c : Ch) : (D.change c).calm := by
  unfold Dk.change; rw [if_neg h.go]
  exact ⟨h.turn.1, h.turn.2⟩
theorem Dk.calm.sync (h : D.calm) (f : Int) : (D.sync f).calm := by
  unfold Dk.sync
  split
  · rw [if_neg h.go]; exact ⟨h.turn.1, h.turn.2⟩
  · exact h
theorem Dk.calm.cut (h : D.calm) (f a : Int) : (D.cutD f a).calm := by
  unfold Dk.cutD
  split
  · exact h.change _
  · exact h
theorem Dk.calm.write (h : D.calm) (f a : Int) (s : ByteArray) : (D.write f a s).calm := by
  unfold Dk.write
  split
  · exact h.change _
  · exact h
theorem Fit.cut {k : Nat} (h : Fit D (k + 1)) (f a : Int) : Fit (D.cutD f a) k := by
  unfold Dk.cutD
  split
  · rename_i hf
    obtain ⟨h1, h2, h3, h4, h5, h6⟩ := hf
    exact change_fit h ⟨by show f.toNat < 2; omega, by show a.toNat ≤ _; omega, by show a.toNat + 0 ≤ _; omega, fun _ => rfl⟩
  · exact h.less (by omega)
theorem Fit.sync {k : Nat} (h : Fit D (k + 1)) (f : Int) : Fit (D.sync f) k := by
  refine ⟨Dk.sync_ok h.ok f, ?_, ?_⟩
  · have := h.count; have := turn_count D
    unfold Dk.sync; split
    · split
      · omega
      · show D.turn.count + k ≤ _; omega
    · omega
  · have := h.waits
    have h2 : D.turn.waits = D.waits := by unfold Dk.turn; split <;> rfl
    unfold Dk.sync; split
    · split
      · rw [h2]; omega
      · show (D.waits.filter _).length + k ≤ _
        have := List.length_filter_le (fun c : Ch => decide (c.file ≠ f.toNat)) D.waits
        omega
    · omega
end
/-- a disk with blocks beside it, since w0 -/
def HeldD (w0 : World) (b0 : List (Option Nat)) (gd : Nat) (xs : List (Nat × TypeId × Array Value)) (D : Dk) (u : World) : Prop :=
  ∃ b', DP u b' gd D ∧ Boxes u xs ∧ Off xs b' ∧ Turn b0 b' w0 u
theorem disk_chain (fs : List (FuncId × Array Value)) (gs n : Nat) (w0 : World) (b0 : List (Option Nat)) (gd : Nat) (xs : List (Nat × TypeId × Array Value)) (Ds : Nat → Dk) (t : TypeId) (w : World)
    (hn : fs.length = n) (hn4 : n ≤ 4) (hgs : (gs, t, (fs.map (fun x => Value.func (.func x.1) #[] x.2)).toArray) ∈ xs) (h0 : HeldD w0 b0 gd xs (Ds 0) w)
    (hrun : ∀ (i : Nat) k cs, fs[i]? = some (k, cs) → ∀ u, (callFunc k cs).run Try.prog u = .ok (.enter k cs) u)
    (hstep : ∀ (i : Nat) k cs, fs[i]? = some (k, cs) → ∀ u b', DP u b' gd (Ds i) → Boxes u xs → Off xs b' → Calls Try.prog k cs u (DPost u b' gd (Ds (i + 1)) (.int .i64 0))) :
    Calls Try.prog 68 #[.slice (some ⟨gs, 0, none⟩) n n] w fun e w' => e = .returned (.int .i64 0) ∧ HeldD w0 b0 gd xs (Ds n) w' := by
  refine (wal_done fs gs n w (fun i u => i ≤ n ∧ HeldD w0 b0 gd xs (Ds i) u) (fun r u => r = 0 ∧ HeldD w0 b0 gd xs (Ds n) u) hn hn4 ?_ hrun ?_ ?_ ⟨Nat.zero_le _, h0⟩).mono ?_
  · rintro i u ⟨_, b', _, hx, _, _⟩ j k cs hj
    have := (hx _ hgs).cell j
    simp only at this
    rw [this]
    simp [hj]
  · rintro i k cs hi u ⟨hin, b', hl, hx, ho, ht⟩
    have hlt : i < n := by
      have := (List.getElem?_eq_some_iff.1 hi).1
      omega
    refine (hstep i k cs hi u b' hl hx ho).mono ?_
    rintro e w' ⟨rfl, b'', hl2, ht2⟩
    obtain ⟨hx2, ho2⟩ := hx.turn ht2 ho
    exact ⟨0, rfl, .inl ⟨rfl, hlt, b'', hl2, hx2, ho2, ht.trans ht2⟩⟩
  · rintro u ⟨_, hH⟩
    exact ⟨rfl, hH⟩
  · rintro e w' ⟨r, rfl, rfl, hH⟩
    exact ⟨rfl, hH⟩

def beginD (D : Dk) (p : Nat) : Nat → Dk
  | 0 => D
  | 1 => D.cutD 1 0
  | 2 => (D.cutD 1 0).sync 1
  | 3 => ((D.cutD 1 0).sync 1).write 1 0 (bsOf (markL ++ slotL 1 0 p))
  | _ => (((D.cutD 1 0).sync 1).write 1 0 (bsOf (markL ++ slotL 1 0 p))).sync 1

set_option maxRecDepth 100000 in
set_option maxHeartbeats 800000 in
theorem wal_begin1 (b : List (Option Nat)) (gd g : Nat) (D : Dk) (bl : Nat) (w : World) (h : DP w b gd D) (hg : w.cell? ⟨g, 0, none⟩ = some (.pointer (some ⟨gd, 0, none⟩))) (hgz : g < w.heap.size) (hx : Has w bl 36 #[.pointer (some ⟨g, 0, none⟩)]) (hfit : Fit D 1) (hc : D.calm) :
    Calls Try.prog 103 #[.pointer (some ⟨bl, 0, none⟩)] w (DPost w b gd (D.cutD 1 0) (.int .i64 0)) := by
  have TP := Lib.hid (fun b1 w1 (h1 : DP w1 b1 gd D) => disk_Cut gd D b1 1 0 w1 h1 hfit.ok (by have := hfit.count; omega) (by have := hfit.waits; omega))
  have hE : D.cutE 1 0 = 0 := (show D.cutE 1 0 = D.turnE from if_pos (by decide)).trans hc.turnE
  obtain ⟨D', hD⟩ : ∃ x, D.cutD 1 0 = x := ⟨_, rfl⟩
  rw [hE, hD] at TP
  rw [hD]
  have HL := Lib.hid h
  have x0 := hx.cell 0
  clear hE hD h hx hfit
  go_enter Try.func103, Try.ntmps103
  go_wp2_with (go_at_call 53; (with_reducible refine (TP.out _ _ HL.out).mono ?_); rintro e w2 ⟨rfl, hd2⟩; have HD := Lib.hid hd2; clear hd2)
  go_ret
  exact ⟨rfl, HD.out⟩
set_option maxRecDepth 100000 in
set_option maxHeartbeats 800000 in
theorem walD_begin2 (b : List (Option Nat)) (gd g : Nat) (D : Dk) (bl : Nat) (w : World) (h : DP w b gd D) (hg : w.cell? ⟨g, 0, none⟩ = some (.pointer (some ⟨gd, 0, none⟩))) (hgz : g < w.heap.size) (hx : Has w bl 36 #[.pointer (some ⟨g, 0, none⟩)]) (hfit : Fit D 1) (hc : D.calm) :
    Calls Try.prog 104 #[.pointer (some ⟨bl, 0, none⟩)] w (DPost w b gd (D.sync 1) (.int .i64 0)) := by
  have TP := Lib.hid (fun b1 w1 (h1 : DP w1 b1 gd D) => disk_Sync gd D b1 1 w1 h1 hfit.ok (by have := hfit.count; omega) (by have := hfit.waits; omega))
  have hE : D.syncE 1 = 0 := (show D.syncE 1 = D.turnE from if_pos (by decide)).trans hc.turnE
  obtain ⟨D', hD⟩ : ∃ x, D.sync 1 = x := ⟨_, rfl⟩
  rw [hE, hD] at TP
  rw [hD]
  have HL := Lib.hid h
  have x0 := hx.cell 0
  clear hE hD h hx hfit
  go_enter Try.func104, Try.ntmps104
  go_wp2_with (go_at_call 57; (with_reducible refine (TP.out _ _ HL.out).mono ?_); rintro e w2 ⟨rfl, hd2⟩; have HD := Lib.hid hd2; clear hd2)
  go_ret
  exact ⟨rfl, HD.out⟩

set_option maxRecDepth 100000 in
set_option maxHeartbeats 800000 in
theorem walD_begin4 (b : List (Option Nat)) (gd g : Nat) (D : Dk) (bl : Nat) (w : World) (h : DP w b gd D) (hg : w.cell? ⟨g, 0, none⟩ = some (.pointer (some ⟨gd, 0, none⟩))) (hgz : g < w.heap.size) (hx : Has w bl 36 #[.pointer (some ⟨g, 0, none⟩)]) (hfit : Fit D 1) (hc : D.calm) :
    Calls Try.prog 107 #[.pointer (some ⟨bl, 0, none⟩)] w (DPost w b gd (D.sync 1) (.int .i64 0)) := by
  have TP := Lib.hid (fun b1 w1 (h1 : DP w1 b1 gd D) => disk_Sync gd D b1 1 w1 h1 hfit.ok (by have := hfit.count; omega) (by have := hfit.waits; omega))
  have hE : D.syncE 1 = 0 := (show D.syncE 1 = D.turnE from if_pos (by decide)).trans hc.turnE
  obtain ⟨D', hD⟩ : ∃ x, D.sync 1 = x := ⟨_, rfl⟩
  rw [hE, hD] at TP
  rw [hD]
  have HL := Lib.hid h
  have x0 := hx.cell 0
  clear hE hD h hx hfit
  go_enter Try.func107, Try.ntmps107
  go_wp2_with (go_at_call 57; (with_reducible refine (TP.out _ _ HL.out).mono ?_); rintro e w2 ⟨rfl, hd2⟩; have HD := Lib.hid hd2; clear hd2)
  go_ret
  exact ⟨rfl, HD.out⟩


set_option maxRecDepth 100000 in
set_option maxHeartbeats 3200000 in
theorem wal_begin3 (b : List (Option Nat)) (gd g p : Nat) (D : Dk) (bl : Nat) (cs : Array Value) (w : World) (h : DP w b gd D) (hh : Has w g 106 cs) (hg : cs[0]? = some (.pointer (some ⟨gd, 0, none⟩))) (hg5 : cs[5]? = some (.int .i64 p)) (hx : Has w bl 36 #[.pointer (some ⟨g, 0, none⟩)]) (hfit : Fit D 1) (hc : D.calm) (hp : p ≤ 4611686018427387904) :
    Calls Try.prog 105 #[.pointer (some ⟨bl, 0, none⟩)] w (DPost w b gd (D.write 1 0 (bsOf (markL ++ slotL 1 0 p))) (.int .i64 0)) := by
  have ST := Lib.hid (wal_slotText 1 0 p (by omega) (by omega) hp)
  rw [show ((1 : Nat) : Int) = 1 from rfl, show ((0 : Nat) : Int) = 0 from rfl] at ST
  have TP := Lib.hid (fun b1 w1 (h1 : DP w1 b1 gd D) => disk_Write gd D b1 1 0 (bsOf (markL ++ slotL 1 0 p)) w1 h1 hfit.ok (by have := hfit.count; omega) (by have := hfit.waits; omega) (by rw [bsOf_size, List.length_append, slotL_len]; decide))
  have hE : D.writeE 1 0 (bsOf (markL ++ slotL 1 0 p)) = 0 := (show _ = D.turnE from if_pos (by rw [bsOf_size, List.length_append, slotL_len]; decide)).trans hc.turnE
  rw [hE, ← bsOf_append, show bsOf markL = ⟨#[114, 101, 108, 115, 116, 111, 114, 101, 32, 108, 111, 103, 32, 48, 48, 49]⟩ from rfl] at TP
  rw [← bsOf_append, show bsOf markL = ⟨#[114, 101, 108, 115, 116, 111, 114, 101, 32, 108, 111, 103, 32, 48, 48, 49]⟩ from rfl]
  obtain ⟨S, hS⟩ : ∃ S, bsOf (slotL 1 0 p) = S := ⟨_, rfl⟩
  have hz : S.size = 24 := by rw [← hS, bsOf_size, slotL_len]
  rw [hS] at ST TP ⊢
  obtain ⟨D', hD⟩ : ∃ x, D.write 1 0 (⟨#[114, 101, 108, 115, 116, 111, 114, 101, 32, 108, 111, 103, 32, 48, 48, 49]⟩ ++ S) = x := ⟨_, rfl⟩
  rw [hD] at TP ⊢
  have HL := Lib.hid (h.below (Below.refl _ _).drew)
  have HH := Lib.hid (hh.belowS (Below.refl _ _).drew)
  have HX := Lib.hid (hx.belowS (Below.refl _ _).drew)
  have HB := Lib.hid ((Below.refl w.heap.size w).drew)
  have x0 := hx.cell 0
  have x1 := (hh.cell 0).trans hg
  have x5 := (hh.cell 5).trans hg5
  have gz := hh.lt
  have G0 := Lib.hid hg; have G5 := Lib.hid hg5
  clear hS hE hD h hx hfit hg hg5 hh
  go_enter Try.func105, Try.ntmps105
  generalize hMK : (⟨#[114, 101, 108, 115, 116, 111, 114, 101, 32, 108, 111, 103, 32, 48, 48, 49]⟩ : ByteArray) = MK at *
  have mz : MK.size = 16 := by rw [← hMK]; rfl
  clear hMK
  go_wp2_with fail
  go_region_with
    (first | (go_at_call 106; (with_reducible refine (ST.out _).mono ?_); rintro e w1 ⟨rfl, hb1⟩; have H1 := Lib.hid (HL.out.below hb1); have HB1 := Lib.hid (bel_step HB.out hb1 HB.out.size); have y0 := (HX.out.belowS hb1).cell 0; have y1 := ((HH.out.belowS hb1).cell 0).trans G0.out; have yz := (HH.out.belowS hb1).lt) | (go_at_call 51; (with_reducible refine (TP.out _ _ H1.out).mono ?_); rintro e w2 ⟨rfl, b2, hd2, ht2⟩; have HD := Lib.hid hd2; have HT := Lib.hid ht2; clear hd2 ht2))
  all_goals
    go_wp2_with fail
    go_ret
    exact ⟨rfl, b2, HD.out, (Turn.below b HB1.out).trans HT.out⟩

end Go.Proofs.Ytjihboddejaelaa
