/-
  begin of package wal, over a disk that does not fail.
-/
import Derived.Test.YtjihboddejaelaaPk3
import Derived.Test.YtjihboddejaelaaPk4
import Derived.Test.YtjihboddejaelaaPk1
import Derived.Test.YtjihboddejaelaaPk2
import Derived.Maps.RangeWalk
import Derived.Maps.OwnSet
import Derived.Maps.OwnOps
import Derived.Maps.Ext
import Derived.Maps.StringElems
namespace Go.Proofs.Ytjihboddejaelaa
set_option linter.unusedVariables false
set_option linter.unusedSimpArgs false
open Go.RowKit
open Go.BigFrame
open Go.Maps
set_option linter.unusedVariables false
set_option linter.unusedSimpArgs false

/-- a disk that does not fail -/
def Dk.calm (D : Dk) : Prop := D.down = false ∧ D.fails = -1
section
variable {D : Dk}
theorem Dk.calm.go (h : D.calm) : ¬ D.stops := by
  unfold Dk.stops; rw [h.1, h.2]; decide
theorem Dk.calm.turn (h : D.calm) : D.turn.calm := by
  unfold Dk.turn; rw [if_neg h.go]
  refine ⟨h.1, ?_⟩
  show (if 0 < D.fails then D.fails - 1 else D.fails) = -1
  rw [h.2]; decide
theorem Dk.calm.turnE (h : D.calm) : D.turnE = 0 := if_neg h.go
theorem Dk.calm.change (h : D.calm) (c : Ch) : (D.change c).calm := by
  unfold Dk.change; rw [if_neg h.go]
  exact ⟨h.turn.1, h.turn.2⟩
theorem Dk.calm.sync (h : D.calm) (f : Int) : (D.sync f).calm := by
  unfold Dk.sync
  split
  · rw [if_neg h.go]; exact ⟨h.turn.1, h.turn.2⟩
  · exact h
theorem Dk.calm.cut (h : D.calm) (f a : Int) : (D.cutD f a).calm := by
  unfold Dk.cutD
  split
  · exact h.change _
  · exact h
theorem Dk.calm.write (h : D.calm) (f a : Int) (s : ByteArray) : (D.write f a s).calm := by
  unfold Dk.write
  split
  · exact h.change _
  · exact h
theorem Fit.cut {k : Nat} (h : Fit D (k + 1)) (f a : Int) : Fit (D.cutD f a) k := by
  unfold Dk.cutD
  split
  · rename_i hf
    obtain ⟨h1, h2, h3, h4, h5, h6⟩ := hf
    exact change_fit h ⟨by show f.toNat < 2; omega, by show a.toNat ≤ _; omega, by show a.toNat + 0 ≤ _; omega, fun _ => rfl⟩
  · exact h.less (by omega)
theorem Fit.sync {k : Nat} (h : Fit D (k + 1)) (f : Int) : Fit (D.sync f) k := by
  refine ⟨Dk.sync_ok h.ok f, ?_, ?_⟩
  · have := h.count; have := turn_count D
    unfold Dk.sync; split
    · split
      · omega
      · show D.turn.count + k ≤ _; omega
    · omega
  · have := h.waits
    have h2 : D.turn.waits = D.waits := by unfold Dk.turn; split <;> rfl
    unfold Dk.sync; split
    · split
      · rw [h2]; omega
      · show (D.waits.filter _).length + k ≤ _
        have := List.length_filter_le (fun c : Ch => decide (c.file ≠ f.toNat)) D.waits
        omega
    · omega
end
/-- a disk with blocks beside it, since w0 -/
def HeldD (w0 : World) (b0 : List (Option Nat)) (gd : Nat) (xs : List (Nat × TypeId × Array Value)) (D : Dk) (u : World) : Prop :=
  ∃ b', DP u b' gd D ∧ Boxes u xs ∧ Off xs b' ∧ Turn b0 b' w0 u
theorem disk_chain (fs : List (FuncId × Array Value)) (gs n : Nat) (w0 : World) (b0 : List (Option Nat)) (gd : Nat) (xs : List (Nat × TypeId × Array Value)) (Ds : Nat → Dk) (t : TypeId) (w : World)
    (hn : fs.length = n) (hn4 : n ≤ 4) (hgs : (gs, t, (fs.map (fun x => Value.func (.func x.1) #[] x.2)).toArray) ∈ xs) (h0 : HeldD w0 b0 gd xs (Ds 0) w)
    (hrun : ∀ (i : Nat) k cs, fs[i]? = some (k, cs) → ∀ u, (callFunc k cs).run Try.prog u = .ok (.enter k cs) u)
    (hstep : ∀ (i : Nat) k cs, fs[i]? = some (k, cs) → ∀ u b', DP u b' gd (Ds i) → Boxes u xs → Off xs b' → Calls Try.prog k cs u (DPost u b' gd (Ds (i + 1)) (.int .i64 0))) :
    Calls Try.prog 68 #[.slice (some ⟨gs, 0, none⟩) n n] w fun e w' => e = .returned (.int .i64 0) ∧ HeldD w0 b0 gd xs (Ds n) w' := by
  refine (wal_done fs gs n w (fun i u => i ≤ n ∧ HeldD w0 b0 gd xs (Ds i) u) (fun r u => r = 0 ∧ HeldD w0 b0 gd xs (Ds n) u) hn hn4 ?_ hrun ?_ ?_ ⟨Nat.zero_le _, h0⟩).mono ?_
  · rintro i u ⟨_, b', _, hx, _, _⟩ j k cs hj
    have := (hx _ hgs).cell j
    simp only at this
    rw [this]
    simp [hj]
  · rintro i k cs hi u ⟨hin, b', hl, hx, ho, ht⟩
    have hlt : i < n := by
      have := (List.getElem?_eq_some_iff.1 hi).1
      omega
    refine (hstep i k cs hi u b' hl hx ho).mono ?_
    rintro e w' ⟨rfl, b'', hl2, ht2⟩
    obtain ⟨hx2, ho2⟩ := hx.turn ht2 ho
    exact ⟨0, rfl, .inl ⟨rfl, hlt, b'', hl2, hx2, ho2, ht.trans ht2⟩⟩
  · rintro u ⟨_, hH⟩
    exact ⟨rfl, hH⟩
  · rintro e w' ⟨r, rfl, rfl, hH⟩
    exact ⟨rfl, hH⟩

def beginD (D : Dk) (p : Nat) : Nat → Dk
  | 0 => D
  | 1 => D.cutD 1 0
  | 2 => (D.cutD 1 0).sync 1
  | 3 => ((D.cutD 1 0).sync 1).write 1 0 (bsOf (markL ++ slotL 1 0 p))
  | _ => (((D.cutD 1 0).sync 1).write 1 0 (bsOf (markL ++ slotL 1 0 p))).sync 1

set_option maxRecDepth 100000 in
set_option maxHeartbeats 800000 in
theorem wal_begin1 (b : List (Option Nat)) (gd g : Nat) (D : Dk) (bl : Nat) (w : World) (h : DP w b gd D) (hg : w.cell? ⟨g, 0, none⟩ = some (.pointer (some ⟨gd, 0, none⟩))) (hgz : g < w.heap.size) (hx : Has w bl 36 #[.pointer (some ⟨g, 0, none⟩)]) (hfit : Fit D 1) (hc : D.calm) :
    Calls Try.prog 103 #[.pointer (some ⟨bl, 0, none⟩)] w (DPost w b gd (D.cutD 1 0) (.int .i64 0)) := by
  have TP := Lib.hid (fun b1 w1 (h1 : DP w1 b1 gd D) => disk_Cut gd D b1 1 0 w1 h1 hfit.ok (by have := hfit.count; omega) (by have := hfit.waits; omega))
  have hE : D.cutE 1 0 = 0 := (show D.cutE 1 0 = D.turnE from if_pos (by decide)).trans hc.turnE
  obtain ⟨D', hD⟩ : ∃ x, D.cutD 1 0 = x := ⟨_, rfl⟩
  rw [hE, hD] at TP
  rw [hD]
  have HL := Lib.hid h
  have x0 := hx.cell 0
  clear hE hD h hx hfit
  go_enter Try.func103, Try.ntmps103
  go_wp2_with (go_at_call 53; (with_reducible refine (TP.out _ _ HL.out).mono ?_); rintro e w2 ⟨rfl, hd2⟩; have HD := Lib.hid hd2; clear hd2)
  go_ret
  exact ⟨rfl, HD.out⟩
set_option maxRecDepth 100000 in
set_option maxHeartbeats 800000 in
theorem walD_begin2 (b : List (Option Nat)) (gd g : Nat) (D : Dk) (bl : Nat) (w : World) (h : DP w b gd D) (hg : w.cell? ⟨g, 0, none⟩ = some (.pointer (some ⟨gd, 0, none⟩))) (hgz : g < w.heap.size) (hx : Has w bl 36 #[.pointer (some ⟨g, 0, none⟩)]) (hfit : Fit D 1) (hc : D.calm) :
    Calls Try.prog 104 #[.pointer (some ⟨bl, 0, none⟩)] w (DPost w b gd (D.sync 1) (.int .i64 0)) := by
  have TP := Lib.hid (fun b1 w1 (h1 : DP w1 b1 gd D) => disk_Sync gd D b1 1 w1 h1 hfit.ok (by have := hfit.count; omega) (by have := hfit.waits; omega))
  have hE : D.syncE 1 = 0 := (show D.syncE 1 = D.turnE from if_pos (by decide)).trans hc.turnE
  obtain ⟨D', hD⟩ : ∃ x, D.sync 1 = x := ⟨_, rfl⟩
  rw [hE, hD] at TP
  rw [hD]
  have HL := Lib.hid h
  have x0 := hx.cell 0
  clear hE hD h hx hfit
  go_enter Try.func104, Try.ntmps104
  go_wp2_with (go_at_call 57; (with_reducible refine (TP.out _ _ HL.out).mono ?_); rintro e w2 ⟨rfl, hd2⟩; have HD := Lib.hid hd2; clear hd2)
  go_ret
  exact ⟨rfl, HD.out⟩

set_option maxRecDepth 100000 in
set_option maxHeartbeats 800000 in
theorem walD_begin4 (b : List (Option Nat)) (gd g : Nat) (D : Dk) (bl : Nat) (w : World) (h : DP w b gd D) (hg : w.cell? ⟨g, 0, none⟩ = some (.pointer (some ⟨gd, 0, none⟩))) (hgz : g < w.heap.size) (hx : Has w bl 36 #[.pointer (some ⟨g, 0, none⟩)]) (hfit : Fit D 1) (hc : D.calm) :
    Calls Try.prog 107 #[.pointer (some ⟨bl, 0, none⟩)] w (DPost w b gd (D.sync 1) (.int .i64 0)) := by
  have TP := Lib.hid (fun b1 w1 (h1 : DP w1 b1 gd D) => disk_Sync gd D b1 1 w1 h1 hfit.ok (by have := hfit.count; omega) (by have := hfit.waits; omega))
  have hE : D.syncE 1 = 0 := (show D.syncE 1 = D.turnE from if_pos (by decide)).trans hc.turnE
  obtain ⟨D', hD⟩ : ∃ x, D.sync 1 = x := ⟨_, rfl⟩
  rw [hE, hD] at TP
  rw [hD]
  have HL := Lib.hid h
  have x0 := hx.cell 0
  clear hE hD h hx hfit
  go_enter Try.func107, Try.ntmps107
  go_wp2_with (go_at_call 57; (with_reducible refine (TP.out _ _ HL.out).mono ?_); rintro e w2 ⟨rfl, hd2⟩; have HD := Lib.hid hd2; clear hd2)
  go_ret
  exact ⟨rfl, HD.out⟩


set_option maxRecDepth 100000 in
set_option maxHeartbeats 3200000 in
theorem wal_begin3 (b : List (Option Nat)) (gd g p : Nat) (D : Dk) (bl : Nat) (cs : Array Value) (w : World) (h : DP w b gd D) (hh : Has w g 106 cs) (hg : cs[0]? = some (.pointer (some ⟨gd, 0, none⟩))) (hg5 : cs[5]? = some (.int .i64 p)) (hx : Has w bl 36 #[.pointer (some ⟨g, 0, none⟩)]) (hfit : Fit D 1) (hc : D.calm) (hp : p ≤ 4611686018427387904) :
    Calls Try.prog 105 #[.pointer (some ⟨bl, 0, none⟩)] w (DPost w b gd (D.write 1 0 (bsOf (markL ++ slotL 1 0 p))) (.int .i64 0)) := by
  have ST := Lib.hid (wal_slotText 1 0 p (by omega) (by omega) hp)
  rw [show ((1 : Nat) : Int) = 1 from rfl, show ((0 : Nat) : Int) = 0 from rfl] at ST
  have TP := Lib.hid (fun b1 w1 (h1 : DP w1 b1 gd D) => disk_Write gd D b1 1 0 (bsOf (markL ++ slotL 1 0 p)) w1 h1 hfit.ok (by have := hfit.count; omega) (by have := hfit.waits; omega) (by rw [bsOf_size, List.length_append, slotL_len]; decide))
  have hE : D.writeE 1 0 (bsOf (markL ++ slotL 1 0 p)) = 0 := (show _ = D.turnE from if_pos (by rw [bsOf_size, List.length_append, slotL_len]; decide)).trans hc.turnE
  rw [hE, ← bsOf_append, show bsOf markL = ⟨#[114, 101, 108, 115, 116, 111, 114, 101, 32, 108, 111, 103, 32, 48, 48, 49]⟩ from rfl] at TP
  rw [← bsOf_append, show bsOf markL = ⟨#[114, 101, 108, 115, 116, 111, 114, 101, 32, 108, 111, 103, 32, 48, 48, 49]⟩ from rfl]
  obtain ⟨S, hS⟩ : ∃ S, bsOf (slotL 1 0 p) = S := ⟨_, rfl⟩
  have hz : S.size = 24 := by rw [← hS, bsOf_size, slotL_len]
  rw [hS] at ST TP ⊢
  obtain ⟨D', hD⟩ : ∃ x, D.write 1 0 (⟨#[114, 101, 108, 115, 116, 111, 114, 101, 32, 108, 111, 103, 32, 48, 48, 49]⟩ ++ S) = x := ⟨_, rfl⟩
  rw [hD] at TP ⊢
  have HL := Lib.hid (h.below (Below.refl _ _).drew)
  have HH := Lib.hid (hh.belowS (Below.refl _ _).drew)
  have HX := Lib.hid (hx.belowS (Below.refl _ _).drew)
  have HB := Lib.hid ((Below.refl w.heap.size w).drew)
  have x0 := hx.cell 0
  have x1 := (hh.cell 0).trans hg
  have x5 := (hh.cell 5).trans hg5
  have gz := hh.lt
  have G0 := Lib.hid hg; have G5 := Lib.hid hg5
  clear hS hE hD h hx hfit hg hg5 hh
  go_enter Try.func105, Try.ntmps105
  generalize hMK : (⟨#[114, 101, 108, 115, 116, 111, 114, 101, 32, 108, 111, 103, 32, 48, 48, 49]⟩ : ByteArray) = MK at *
  have mz : MK.size = 16 := by rw [← hMK]; rfl
  clear hMK
  go_wp2_with fail
  go_region_with
    (first | (go_at_call 106; (with_reducible refine (ST.out _).mono ?_); rintro e w1 ⟨rfl, hb1⟩; have H1 := Lib.hid (HL.out.below hb1); have HB1 := Lib.hid (bel_step HB.out hb1 HB.out.size); have y0 := (HX.out.belowS hb1).cell 0; have y1 := ((HH.out.belowS hb1).cell 0).trans G0.out; have yz := (HH.out.belowS hb1).lt) | (go_at_call 51; (with_reducible refine (TP.out _ _ H1.out).mono ?_); rintro e w2 ⟨rfl, b2, hd2, ht2⟩; have HD := Lib.hid hd2; have HT := Lib.hid ht2; clear hd2 ht2))
  all_goals
    go_wp2_with fail
    go_ret
    exact ⟨rfl, b2, HD.out, (Turn.below b HB1.out).trans HT.out⟩

end Go.Proofs.Ytjihboddejaelaa

/-
  The text of a sheet; that the operations of a log stay within the bounds of their contracts.
-/
namespace Go.Proofs.Ytjihboddejaelaa
set_option linter.unusedVariables false
set_option linter.unusedSimpArgs false
open Go.RowKit
open Go.BigFrame
open Go.Maps
set_option linter.unusedVariables false
set_option linter.unusedSimpArgs false

theorem append_fit {L : Lg} {k : Nat} (h : Fit L.D (k + 1)) (n : Int) (t : ByteArray) : Fit (L.append n t).D k := by
  unfold Lg.append
  split
  · exact h.write _ _ _
  · exact h.less (by omega)
theorem append_rest (L : Lg) (n : Int) (t : ByteArray) : (L.append n t).slot = L.slot ∧ (L.append n t).number = L.number ∧ (L.append n t).kept = L.kept ∧ (L.append n t).pages = L.pages ∧ (L.append n t).fs.length ≤ L.fs.length + 1 := by
  unfold Lg.append
  split
  · refine ⟨rfl, rfl, rfl, rfl, ?_⟩
    show (if L.D.stops then L.fs else L.fs ++ [_]).length ≤ _
    split
    · exact Nat.le_succ _
    · rw [List.length_append]; exact Nat.le_refl _
  · exact ⟨rfl, rfl, rfl, rfl, Nat.le_succ _⟩
def sheetAt (n : Int) (i : Nat) : UInt8 := UInt8.ofNat ((n * ((i : Int) / 100 + 1)) % 256).toNat
/-- the first k bytes are laid -/
def sheetL (n : Int) (k : Nat) : List UInt8 := (List.range 1024).map fun i => if i < k then sheetAt n i else 0
def sheetB (n : Int) : ByteArray := bsOf (sheetL n 1024)
theorem sheetL_len (n : Int) (k : Nat) : (sheetL n k).length = 1024 := by simp [sheetL]
theorem sheetB_size (n : Int) : (sheetB n).size = 1024 := by unfold sheetB; rw [bsOf_size, sheetL_len]
theorem sheetL_get (n : Int) (k i : Nat) (hi : i < 1024) : (sheetL n k)[i]? = some (if i < k then sheetAt n i else 0) := by
  unfold sheetL
  rw [List.getElem?_map, List.getElem?_range hi]; rfl
theorem sheetL_succ (n : Int) (k : Nat) (hk : k < 1024) : sheetL n (k + 1) = (sheetL n k).set k (sheetAt n k) := by
  refine List.ext_getElem? fun i => ?_
  by_cases hi : i < 1024
  · rw [sheetL_get n _ i hi, List.getElem?_set]
    by_cases hki : k = i
    · subst hki
      rw [if_pos (Nat.lt_succ_self k), if_pos rfl, if_pos (show k < (sheetL n k).length by rw [sheetL_len]; exact hk)]
    · rw [if_neg hki, sheetL_get n _ i hi]
      by_cases h : i < k
      · rw [if_pos h, if_pos (by omega)]
      · rw [if_neg h, if_neg (by omega)]
  · rw [List.getElem?_eq_none (by rw [sheetL_len]; omega), List.getElem?_eq_none (by rw [List.length_set, sheetL_len]; omega)]
theorem sheet_val (n : Int) (i : Nat) : wrap64 (n * ((i : Int) / 100 + 1)) % 256 = ((sheetAt n i).toNat : Int) := by
  unfold sheetAt
  generalize n * ((i : Int) / 100 + 1) = x
  rw [UInt8.toNat_ofNat']
  unfold wrap64
  omega
theorem madeZeros (n : Nat) : madeCells #[Value.int .u8 0] n = (u8s (List.replicate n 0)).toArray := by
  apply Array.toList_inj.1
  rw [show (u8s (List.replicate n 0)).toArray.toList = List.replicate n (Value.int .u8 0) by simp [u8s, u8v]]
  refine List.eq_replicate_iff.2 ⟨by simp [size_madeCells], fun b hb => ?_⟩
  simp only [madeCells, Array.toList_map, List.mem_map] at hb
  obtain ⟨a, _, rfl⟩ := hb
  show (#[Value.int .u8 0] : Array Value)[a % 1]! = _
  rw [Nat.mod_one]; rfl
theorem sheetL_zero (n : Int) : sheetL n 0 = List.replicate 1024 0 := by
  refine List.eq_replicate_iff.2 ⟨sheetL_len n 0, fun b hb => ?_⟩
  unfold sheetL at hb
  obtain ⟨i, _, rfl⟩ := List.mem_map.1 hb
  rw [if_neg (by omega)]
theorem u8s_setS (l : List UInt8) (k : Nat) (b : UInt8) : (u8s l).toArray.setIfInBounds k (.int .u8 b.toNat) = (u8s (l.set k b)).toArray := by
  apply Array.toList_inj.1
  simp [u8s, u8v, List.map_set]

section
variable {D : Dk} {k : Nat}
theorem tell_fit {L : Lg} (h : Fit L.D (k + 2)) (f p : Nat) : Fit (L.tell f p).D k := by
  have h1 : Fit (L.tellD f p) (k + 1) := h.write _ _ _
  unfold Lg.tell
  split
  · exact h1.less (by omega)
  · have h2 : Fit ((L.tellD f p).sync 1) k := h1.sync 1
    split
    · exact h2
    · exact h2
theorem commit_fit {L : Lg} (h : Fit L.D (k + 4)) (n : Int) (t : ByteArray) (p : Int) : Fit (L.commit n t p).D k := by
  have h1 : Fit (L.append n t).D (k + 3) := append_fit h n t
  have h2 : Fit ((L.append n t).D.sync 1) (k + 2) := h1.sync _
  unfold Lg.commit
  split
  · split
    · split
      · exact h2.less (by omega)
      · exact tell_fit (L := { L.append n t with D := (L.append n t).D.sync 1 }) h2 _ _
    · exact h1.less (by omega)
  · exact h.less (by omega)
theorem put1_fitK {L : Lg} {X : Dk} {m K : Nat} (h : Fit X (K + (70000 - min m 65537))) : Fit (L.put1 X m) (K + (70000 - min (m + 1) 65537)) := by
  unfold Lg.put1
  split
  · by_cases hm : m < 65537
    · have h2 : Fit X ((K + (70000 - min (m + 1) 65537)) + 1) := h.less (by omega)
      exact h2.write _ _ _
    · have hF : ∀ s : ByteArray, ¬ fitsF 0 (1024 * m : Nat) s.size := fun s => by unfold fitsF; omega
      unfold Dk.write; rw [if_neg (hF _)]; exact h.less (by omega)
  · exact h.less (by omega)
theorem puts_fit {L : Lg} {K : Nat} : ∀ (j m : Nat) (X : Dk), Fit X (K + (70000 - min m 65537)) → Fit (L.puts j m X).1 (K + 4)
  | 0, m, X, h => h.less (by omega)
  | j + 1, m, X, h => by
    rw [Lg.puts]
    split
    · exact puts_fit j (m + 1) _ (put1_fitK h)
    · exact (put1_fitK (L := L) h).less (by omega)
theorem check3_fit {L : Lg} {X : Dk} (h : Fit X (k + 4)) : Fit (L.check3 X).1.D k := by
  have h1 : Fit (X.cutD 0 (1024 * L.pages : Nat)) (k + 3) := h.cut _ _
  have h2 : Fit ((X.cutD 0 (1024 * L.pages : Nat)).sync 0) (k + 2) := h1.sync _
  have h3 : Fit (({ L with D := (X.cutD 0 (1024 * L.pages : Nat)).sync 0 } : Lg).tell 0 L.pages).D k := tell_fit (L := { L with D := (X.cutD 0 (1024 * L.pages : Nat)).sync 0 }) h2 _ _
  unfold Lg.check3
  split
  · exact h1.less (by omega)
  · split
    · exact h2.less (by omega)
    · dsimp only
      split
      · exact h3
      · exact h3
theorem checkpoint_fit {L : Lg} (h : Fit L.D (k + 70000)) : Fit L.checkpoint.1.D k := by
  have h1 : Fit (L.puts L.pages 0 L.D).1 (k + 4) := puts_fit _ _ _ (h.less (by omega))
  unfold Lg.checkpoint
  split
  · exact h.less (by omega)
  · split
    · exact h.less (by omega)
    · split
      · exact h1.less (by omega)
      · exact check3_fit h1
theorem opened_fit (h : Fit D (k + 4)) : Fit (Lg.opened D).D k := by
  unfold Lg.opened
  split
  · have h1 : Fit (D.cutD 1 0) (k + 3) := h.cut _ _
    have h2 : Fit ((D.cutD 1 0).sync 1) (k + 2) := h1.sync _
    have h3 : Fit (((D.cutD 1 0).sync 1).write 1 0 (bsOf (markL ++ slotL 1 0 ((D.seen 0).length / 1024)))) (k + 1) := h2.write _ _ _
    have h4 : Fit (anewD D) k := h3.sync 1
    generalize anewD D = X at h4 ⊢
    exact h4
  · exact h.less (by omega)
theorem opened_calm (h : D.calm) : (Lg.opened D).D.calm := by
  unfold Lg.opened
  split
  · have h4 : (anewD D).calm := (((h.cut 1 0).sync 1).write 1 0 (bsOf (markL ++ slotL 1 0 ((D.seen 0).length / 1024)))).sync 1
    generalize anewD D = X at h4 ⊢
    exact h4
  · exact h
theorem crash_calm (D : Dk) (ks : List Int) : (D.crash ks).calm := ⟨rfl, rfl⟩
theorem crash_fit (h : Fit D k) (ks : List Int) : Fit (D.crash ks) k := ⟨Dk.crash_ok h.ok ks, h.count, by show 0 + k ≤ _; have := h.waits; omega⟩
theorem fail_fit (h : Fit D k) {n : Int} (hn : n ≤ 9223372036854775807) : Fit (D.fail n) k := ⟨Dk.fail_ok h.ok hn, h.count, h.waits⟩
theorem new_fit : Fit Dk.new 30000000 := ⟨Dk.new_ok, by decide, by decide⟩
end

end Go.Proofs.Ytjihboddejaelaa

/-
  pick, short, sheet of package relstorekeep.
-/
namespace Go.Proofs.Ytjihboddejaelaa
set_option linter.unusedVariables false
set_option linter.unusedSimpArgs false
open Go.RowKit
open Go.BigFrame
open Go.Maps
set_option linter.unusedVariables false
set_option linter.unusedSimpArgs false

def pickN (c : Int) (n : Nat) : Nat := (if c < 0 then (-(c + 1)).toNat else c.toNat) % n
theorem pickN_lt (c : Int) {n : Nat} (h : 0 < n) : pickN c n < n := Nat.mod_lt _ h
set_option maxHeartbeats 400000 in
theorem keep_pick (c : Int) (n : Nat) (hc : in64 c) (h0 : 0 < n) (hn : n ≤ 1000000) (w : World) : Calls Try.prog 14 #[.int .i64 c, .int .i64 n] w fun e w' => e = .returned (.int .i64 (pickN c n : Nat)) ∧ w = w' := by
  obtain ⟨x, hx⟩ : ∃ x, pickN c n = x := ⟨_, rfl⟩
  rw [hx]
  by_cases hneg : c < 0
  · have w1 : wrap64 (c + 1) = c + 1 := IntWalk.wrap64_in _ (by unfold in64 at hc; omega)
    have w2 : wrap64 (-(c + 1)) = -(c + 1) := IntWalk.wrap64_in _ (by unfold in64 at hc; omega)
    have e : (-(c + 1)).tmod (n : Int) = (x : Int) := by
      rw [← hx, pickN, if_pos hneg]
      rw [Int.tmod_eq_emod_of_nonneg (by omega), Int.natCast_emod, Int.toNat_of_nonneg (by omega)]
    have X := Lib.hid hx
    clear hx hc
    go_enter Try.func14, Try.ntmps14
    go_wp2_with fail
    go_ret
    exact ⟨by first | rfl | simp_all, rfl⟩
  · have e : c.tmod (n : Int) = (x : Int) := by
      rw [← hx, pickN, if_neg hneg]
      rw [Int.tmod_eq_emod_of_nonneg (by omega), Int.natCast_emod, Int.toNat_of_nonneg (by omega)]
    have X := Lib.hid hx
    clear hx hc
    go_enter Try.func14, Try.ntmps14
    go_wp2_with fail
    go_ret
    exact ⟨by first | rfl | simp_all, rfl⟩
theorem slice_shortK (A : Option Addr) (m c a : Nat) (h : a ≤ c) (w : World) : (Instr.sliceAt 35 (.slice A m c) none (some (.int .i64 a)) none).run Try.prog w = .ok (.slice A a c) w := by
  have h1 : (0 : Int) ≤ (a : Int) := by omega
  have h2 : (a : Int) ≤ (c : Int) := by omega
  go_simp
set_option maxHeartbeats 400000 in
theorem keep_short (A : Option Addr) (n c : Nat) (hc : n ≤ c) (w : World) : Calls Try.prog 15 #[.slice A n c] w fun e w' => e = .returned (.slice A (min n 250) c) ∧ w = w' := by
  by_cases h : n ≤ 250
  · have E := Lib.hid (show min n 250 = n by omega)
    rw [E.out]
    have hm : min (n : Int) 250 = (n : Int) := by omega
    have hs := fun w => slice_shortK A n c n hc w
    go_enter Try.func15, Try.ntmps15
    go_wp2_with fail
    go_ret
    exact ⟨rfl, rfl⟩
  · have E := Lib.hid (show min n 250 = 250 by omega)
    rw [E.out]
    have hm : min (n : Int) 250 = 250 := by omega
    have hs := fun w => slice_shortK A n c 250 (by omega) w
    go_enter Try.func15, Try.ntmps15
    go_wp2_with fail
    go_ret
    exact ⟨rfl, rfl⟩
set_option maxRecDepth 100000 in
set_option maxHeartbeats 3200000 in
theorem keep_sheet (n : Int) (w : World) : Calls Try.prog 16 #[.int .i64 n] w fun e w' => e = .returned (.string (sheetB n)) ∧ Below w.heap.size w w' := by
  have hmk := make_bytesN 1024 (by omega) w
  rw [madeZeros, ← sheetL_zero n, show ((1024 : Nat) : Int) = 1024 from rfl] at hmk
  have H0 := Lib.hid (Has.new w 5 (u8s (sheetL n 0)).toArray)
  have HB := Lib.hid ((Below.refl w.heap.size w).alloc (Nat.le_refl _) (.cells (u8s (sheetL n 0)).toArray 5))
  go_enter Try.func16, Try.ntmps16
  go_wp2_with fail
  go_loopw [8] (fun v8 wr => ∃ k : Nat, k ≤ 1024 ∧ v8 = .int .i64 k ∧ Has wr w.heap.size 5 (u8s (sheetL n k)).toArray ∧ Below w.heap.size w wr) (fun v8 _ => 1024 - (intOf v8).toNat)
  case atStart => exact ⟨0, by omega, rfl, H0.out, HB.out⟩
  case round =>
    obtain ⟨k, hk, rfl, hh, hb⟩ := hrel
    have HH := Lib.hid hh
    have HBB := Lib.hid hb
    clear hh hb H0 HB hmk
    have gz := HH.out.lt
    by_cases hk2 : k < 1024
    · have c0 : wr.cell? ⟨w.heap.size, k, none⟩ = some (.int .u8 (((sheetL n k)[k]?.getD 0).toNat : Nat)) := by
        have := HH.out.cell k
        rw [this, sheetL_get n k k hk2]
        simp [u8s, u8v, sheetL_get n k k hk2]
      have cf := HH.out.frozen
      have HS := Lib.hid (HH.out.set k (.int .u8 (sheetAt n k).toNat))
      rw [u8s_setS, ← sheetL_succ n k hk2] at HS
      have SV := Lib.hid (sheet_val n k)
      go_wp2_with fail
      rw [SV.out]
      go_roundw
      case rel => exact ⟨k + 1, by omega, by simp, HS.out, HBB.out.setCell (Nat.le_refl _) _⟩
      case measure => simp [intOf]; omega
    · have hk3 : k = 1024 := by omega
      subst hk3
      have hcv := conv_BS (c := 1024) (BS.of_has HH.out)
      rw [sheetL_len] at hcv
      have SB := Lib.hid (show bsOf (sheetL n 1024) = sheetB n from rfl)
      rw [SB.out] at hcv
      rw [show ((1024 : Nat) : Int) = 1024 from rfl]
      go_wp2_with fail
      go_ret
      exact ⟨rfl, HBB.out⟩

end Go.Proofs.Ytjihboddejaelaa

/-
  begin of package wal: the whole.
-/
namespace Go.Proofs.Ytjihboddejaelaa
set_option linter.unusedVariables false
set_option linter.unusedSimpArgs false
open Go.RowKit
open Go.BigFrame
open Go.Maps
set_option linter.unusedVariables false
set_option linter.unusedSimpArgs false

theorem enter_begin1 (cs : Array Value) (u : World) : (callFunc 103 cs).run Try.prog u = .ok (.enter 103 cs) u := by kernel_rfl
theorem enter_begin2 (cs : Array Value) (u : World) : (callFunc 104 cs).run Try.prog u = .ok (.enter 104 cs) u := by kernel_rfl
theorem enter_begin3 (cs : Array Value) (u : World) : (callFunc 105 cs).run Try.prog u = .ok (.enter 105 cs) u := by kernel_rfl
theorem enter_begin4 (cs : Array Value) (u : World) : (callFunc 107 cs).run Try.prog u = .ok (.enter 107 cs) u := by kernel_rfl
def beginFs (N : Nat) : List (FuncId × Array Value) := [(103, #[.pointer (some ⟨N, 0, none⟩)]), (104, #[.pointer (some ⟨N, 0, none⟩)]), (105, #[.pointer (some ⟨N, 0, none⟩)]), (107, #[.pointer (some ⟨N, 0, none⟩)])]
def beginXs (gs N g : Nat) (cs : Array Value) : List (Nat × TypeId × Array Value) :=
  [(gs, 50, ((beginFs N).map (fun x => Value.func (.func x.1) #[] x.2)).toArray), (N, 36, #[.pointer (some ⟨g, 0, none⟩)]), (g, 106, cs)]
set_option maxRecDepth 100000 in
theorem wal_beginChain (b : List (Option Nat)) (gd g p N gs : Nat) (D : Dk) (cs : Array Value) (w : World) (hgs : gs = w.heap.size) (h : DP w b gd D) (hh : Has w g 106 cs) (hg : cs[0]? = some (.pointer (some ⟨gd, 0, none⟩))) (hg5 : cs[5]? = some (.int .i64 p)) (hx : Has w N 36 #[.pointer (some ⟨g, 0, none⟩)])
    (hgb : some g ∉ b) (hNb : some N ∉ b) (hfit : Fit D 4) (hc : D.calm) (hp : p ≤ 4611686018427387904) :
    Calls Try.prog 68 #[.slice (some ⟨gs, 0, none⟩) 4 4] (w.alloc (.cells ((beginFs N).map (fun x => Value.func (.func x.1) #[] x.2)).toArray 50)).drew fun e w' => e = .returned (.int .i64 0) ∧ HeldD w b gd (beginXs gs N g cs) (beginD D p 4) w' := by
  subst hgs
  have hb := Below.drew <| (Below.refl w.heap.size w).alloc (Nat.le_refl _) (.cells ((beginFs N).map (fun x => Value.func (.func x.1) #[] x.2)).toArray 50)
  refine disk_chain (beginFs N) w.heap.size 4 w b gd (beginXs w.heap.size N g cs) (beginD D p) 50 _ rfl (by omega) (by simp [beginXs]) ⟨b, h.below hb, ?_, ?_, Turn.below _ hb⟩ ?_ ?_
  · intro x hx2
    simp only [beginXs, List.mem_cons, List.not_mem_nil, or_false] at hx2
    rcases hx2 with rfl | rfl | rfl
    · exact Has.new _ _ _
    · exact hx.alloc _
    · exact hh.alloc _
  · intro x hx2 h2
    simp only [beginXs, List.mem_cons, List.not_mem_nil, or_false] at hx2
    rcases hx2 with rfl | rfl | rfl
    · have := h.lt h2; simp only at this; omega
    · exact hNb h2
    · exact hgb h2
  · intro i k cs hi u
    have h4 : i < 4 := (List.getElem?_eq_some_iff.1 hi).1
    obtain rfl | rfl | rfl | rfl : i = 0 ∨ i = 1 ∨ i = 2 ∨ i = 3 := by omega
    · cases hi; exact enter_begin1 _ _
    · cases hi; exact enter_begin2 _ _
    · cases hi; exact enter_begin3 _ _
    · cases hi; exact enter_begin4 _ _
  · intro i k cs2 hi u b' hl hx2 ho
    have hN : Has u N 36 #[.pointer (some ⟨g, 0, none⟩)] := hx2 (N, _, _) (by simp [beginXs])
    have hG : Has u g 106 cs := hx2 (g, _, _) (by simp [beginXs])
    have f1 : Fit (D.cutD 1 0) 3 := hfit.cut _ _
    have f2 : Fit ((D.cutD 1 0).sync 1) 2 := f1.sync _
    have f3 : Fit (((D.cutD 1 0).sync 1).write 1 0 (bsOf (markL ++ slotL 1 0 p))) 1 := f2.write _ _ _
    have c1 : (D.cutD 1 0).calm := hc.cut _ _
    have c2 : ((D.cutD 1 0).sync 1).calm := c1.sync _
    have c3 : (((D.cutD 1 0).sync 1).write 1 0 (bsOf (markL ++ slotL 1 0 p))).calm := c2.write _ _ _
    have h4 : i < 4 := (List.getElem?_eq_some_iff.1 hi).1
    obtain rfl | rfl | rfl | rfl : i = 0 ∨ i = 1 ∨ i = 2 ∨ i = 3 := by omega
    · cases hi; exact wal_begin1 b' gd g D N u hl ((hG.cell 0).trans hg) hG.lt hN (hfit.less (by omega)) hc
    · cases hi; exact walD_begin2 b' gd g _ N u hl ((hG.cell 0).trans hg) hG.lt hN (f1.less (by omega)) c1
    · cases hi; exact wal_begin3 b' gd g p _ N cs u hl hG hg hg5 hN (f2.less (by omega)) c2 hp
    · cases hi; exact walD_begin4 b' gd g _ N u hl ((hG.cell 0).trans hg) hG.lt hN f3 c3

def BeginPost (w : World) (b : List (Option Nat)) (gd g : Nat) (D' : Dk) (cs : Array Value) (e : Ending) (w' : World) : Prop :=
  e = .returned (.int .i64 0) ∧ ∃ b', DP w' b' gd D' ∧ Has w' g 106 cs ∧ Turn (b ++ [some g]) (b' ++ [some g]) w w' ∧ some g ∉ b'
set_option maxRecDepth 100000 in
set_option maxHeartbeats 3200000 in
theorem wal_begin (b : List (Option Nat)) (gd g p : Nat) (D : Dk) (a1 a2 a3 a4 a6 a7 a8 : Value) (w : World) (h : DP w b gd D) (hh : Has w g 106 #[.pointer (some ⟨gd, 0, none⟩), a1, a2, a3, a4, .int .i64 p, a6, a7, a8]) (hgb : some g ∉ b) (hfit : Fit D 4) (hc : D.calm) (hp : p ≤ 4611686018427387904) :
    Calls Try.prog 64 #[.pointer (some ⟨g, 0, none⟩)] w (BeginPost w b gd g (beginD D p 4) #[.pointer (some ⟨gd, 0, none⟩), a1, a2, a3, a4, .int .i64 p, a6, .int .i64 0, .int .i64 1]) := by
  have HL := Lib.hid h
  have HH := Lib.hid hh
  have HO := Lib.hid hgb
  have HF := Lib.hid hfit
  have W1 := Lib.hid (show Has (w.alloc (.cells #[.pointer (some ⟨g, 0, none⟩)] 36)) w.heap.size 36 #[.pointer (some ⟨g, 0, none⟩)] ∧ Below w.heap.size w (w.alloc (.cells #[.pointer (some ⟨g, 0, none⟩)] 36)) from ⟨Has.new _ _ _, (Below.refl _ _).alloc (Nat.le_refl _) _⟩)
  have gz := hh.lt
  clear h hh hgb hfit
  go_enter Try.func64, Try.ntmps64
  go_upto_region 1 with fail
  generalize w.alloc (.cells #[.pointer (some ⟨g, 0, none⟩)] 36) = W at *
  have H1 := Lib.hid (HL.out.below W1.out.2)
  have H2 := Lib.hid (HH.out.belowS W1.out.2)
  have x0 := W1.out.1.cell 0
  have x7 : W.cell? ⟨g, 7, none⟩ = some a7 := H2.out.cell 7
  have x8 : W.cell? ⟨g, 8, none⟩ = some a8 := H2.out.cell 8
  have xf := H2.out.frozen
  have xz := H2.out.lt
  go_region
  all_goals
    have TS := Lib.hid (((Turn.cell g 7 (.int .i64 0) W).trans (Turn.cell g 8 (.int .i64 1) _)))
    have gb := HO.out
    have D2 := Lib.hid (H1.out.turn TS.out (fun k hk h3 => gb ((show k = g by simpa using hk) ▸ h3)))
    have G2 := Lib.hid (show Has ((W.setCell ⟨g, 7, none⟩ (.int .i64 0)).setCell ⟨g, 8, none⟩ (.int .i64 1)) g 106 #[.pointer (some ⟨gd, 0, none⟩), a1, a2, a3, a4, .int .i64 p, a6, .int .i64 0, .int .i64 1] from ((H2.out.set 7 _).set 8 _))
    have X2 := Lib.hid (W1.out.1.turn TS.out (fun h3 => Nat.ne_of_gt gz (show w.heap.size = g by simpa using h3)))
    have y0 := X2.out.cell 0
    have CH := Lib.hid (wal_beginChain b gd g p w.heap.size W.heap.size D #[.pointer (some ⟨gd, 0, none⟩), a1, a2, a3, a4, .int .i64 p, a6, .int .i64 0, .int .i64 1] ((W.setCell ⟨g, 7, none⟩ (.int .i64 0)).setCell ⟨g, 8, none⟩ (.int .i64 1)) (by simp) D2.out G2.out rfl rfl X2.out HO.out (fun h3 => by have := HL.out.lt h3; omega) HF.out hc hp)
    go_wp2_with (go_at_call 68; refine CH.out.mono ?_; rintro e w2 ⟨rfl, hH⟩; have HH2 := Lib.hid hH; clear hH)
    go_ret
    obtain ⟨b', q1, q2, q3, q4⟩ := HH2.out
    have q5 : Has w2 g 106 #[.pointer (some ⟨gd, 0, none⟩), a1, a2, a3, a4, .int .i64 p, a6, .int .i64 0, .int .i64 1] := q2 (g, _, _) (by simp [beginXs])
    have q6 : some g ∉ b' := q3 (g, 106, #[.pointer (some ⟨gd, 0, none⟩), a1, a2, a3, a4, .int .i64 p, a6, .int .i64 0, .int .i64 1]) (by simp [beginXs])
    refine ⟨rfl, b', q1, q5, ?_, q6⟩
    exact ((Turn.below _ W1.out.2).trans (TS.out.right b)).trans (q4.left [some g])

end Go.Proofs.Ytjihboddejaelaa

/-
  Commit of package wal.
-/
namespace Go.Proofs.Ytjihboddejaelaa
set_option linter.unusedVariables false
set_option linter.unusedSimpArgs false
open Go.RowKit
open Go.BigFrame
open Go.Maps
set_option linter.unusedVariables false
set_option linter.unusedSimpArgs false

set_option maxRecDepth 100000 in
set_option maxHeartbeats 800000 in
theorem wal_Commit1 (b : List (Option Nat)) (gd g m1 m2 : Nat) (R : Rw) (n : Int) (t : ByteArray) (bl bn bt : Nat) (w : World) (h : LR w b gd g m1 m2 R) (hl : Has w bl 36 #[.pointer (some ⟨g, 0, none⟩)]) (hn : Has w bn 3 #[.int .i64 n]) (ht : Has w bt 9 #[.string t]) (hfit : Fit R.D 1) (hnf : R.nf ≤ 100000) :
    Calls Try.prog 69 #[.pointer (some ⟨bl, 0, none⟩), .pointer (some ⟨bn, 0, none⟩), .pointer (some ⟨bt, 0, none⟩)] w (LinkPost w b gd g m1 m2 (R.app n t) (R.appE n t)) := by
  have TP := Lib.hid (wal_Append b gd g m1 m2 R n t w h hfit hnf)
  obtain ⟨E, hE⟩ : ∃ x, R.appE n t = x := ⟨_, rfl⟩
  rw [hE] at TP ⊢
  have x0 := hl.cell 0
  have x1 := hn.cell 0
  have x2 := ht.cell 0
  clear hE h hl hn ht hfit
  go_enter Try.func69, Try.ntmps69
  go_wp2_with (go_at_call 17; (with_reducible refine TP.out.mono ?_); rintro e w2 ⟨rfl, hd2⟩; have HD := Lib.hid hd2; clear hd2)
  go_ret
  exact ⟨rfl, HD.out⟩
set_option maxRecDepth 100000 in
set_option maxHeartbeats 1600000 in
theorem wal_Commit3 (b : List (Option Nat)) (gd g m1 m2 : Nat) (R : Rw) (p : Nat) (bl bp : Nat) (w : World) (h : LR w b gd g m1 m2 R) (hl : Has w bl 36 #[.pointer (some ⟨g, 0, none⟩)]) (hpb : Has w bp 3 #[.int .i64 p]) (hfit : Fit R.D 2) (hs : R.slot < 2) (hnum : R.number < 4) (hf : R.nf ≤ 4611686018427387904) (hp : p ≤ 4611686018427387904) :
    Calls Try.prog 71 #[.pointer (some ⟨bl, 0, none⟩), .pointer (some ⟨bp, 0, none⟩)] w (LinkPost w b gd g m1 m2 (R.tell R.nf p) (R.tellE R.nf p)) := by
  have hd := (Below.refl w.heap.size w).drew
  have TP := Lib.hid (wal_tell b gd g m1 m2 R R.nf p w.drew (h.below hd) hfit hs hnum hf hp)
  obtain ⟨E, hE⟩ : ∃ x, R.tellE R.nf p = x := ⟨_, rfl⟩
  rw [hE] at TP ⊢
  have x0 := hl.cell 0
  have x1 := hpb.cell 0
  have x2 : w.cell? ⟨g, 1, none⟩ = some (.int .i64 R.nf) := h.has.cell 1
  have gz := h.has.lt
  have HB := Lib.hid (Turn.below (b ++ lb g m1 m2) hd)
  clear hE h hl hpb hfit hd
  go_enter Try.func71, Try.ntmps71
  go_wp2_with fail
  go_region_with
    (go_at_call 72; (with_reducible refine TP.out.mono ?_); rintro e w2 ⟨rfl, hd2⟩; have HD := Lib.hid hd2; clear hd2)
  all_goals
    go_wp2_with fail
    go_ret
    obtain ⟨b', q1, q2⟩ := HD.out
    exact ⟨rfl, b', q1, HB.out.trans q2⟩
theorem app_same (R : Rw) (n : Int) (t : ByteArray) : (R.app n t).slot = R.slot ∧ (R.app n t).number = R.number ∧ (R.app n t).nf ≤ R.nf + 1 ∧ (R.app n t).np = R.np ∧ (R.app n t).kf = R.kf ∧ (R.app n t).kp = R.kp := by
  unfold Rw.app
  split
  · split
    · exact ⟨rfl, rfl, Nat.le_refl _, rfl, rfl, rfl⟩
    · exact ⟨rfl, rfl, Nat.le_succ _, rfl, rfl, rfl⟩
  · exact ⟨rfl, rfl, Nat.le_succ _, rfl, rfl, rfl⟩
theorem app_fit {R : Rw} {k : Nat} (h : Fit R.D (k + 1)) (n : Int) (t : ByteArray) : Fit (R.app n t).D k := by
  unfold Rw.app
  split
  · split
    · exact h.write _ _ _
    · exact h.write _ _ _
  · exact h.less (by omega)
theorem enter_Commit1 (cs : Array Value) (u : World) : (callFunc 69 cs).run Try.prog u = .ok (.enter 69 cs) u := by kernel_rfl
theorem enter_Commit2 (cs : Array Value) (u : World) : (callFunc 70 cs).run Try.prog u = .ok (.enter 70 cs) u := by kernel_rfl
theorem enter_Commit3 (cs : Array Value) (u : World) : (callFunc 71 cs).run Try.prog u = .ok (.enter 71 cs) u := by kernel_rfl
def commitFs (N : Nat) : List (FuncId × Array Value) := [(69, #[.pointer (some ⟨N, 0, none⟩), .pointer (some ⟨N + 1, 0, none⟩), .pointer (some ⟨N + 1 + 1, 0, none⟩)]), (70, #[.pointer (some ⟨N, 0, none⟩)]), (71, #[.pointer (some ⟨N, 0, none⟩), .pointer (some ⟨N + 1 + 1 + 1, 0, none⟩)])]
def commitXs (gs N g : Nat) (n : Int) (t : ByteArray) (p : Nat) : List (Nat × TypeId × Array Value) :=
  [(gs, 50, ((commitFs N).map (fun x => Value.func (.func x.1) #[] x.2)).toArray), (N, 36, #[.pointer (some ⟨g, 0, none⟩)]), (N + 1, 3, #[.int .i64 n]), (N + 1 + 1, 9, #[.string t]), (N + 1 + 1 + 1, 3, #[.int .i64 p])]
structure CommitBox (u : World) (N g : Nat) (n : Int) (t : ByteArray) (p : Nat) : Prop where
  l : Has u N 36 #[.pointer (some ⟨g, 0, none⟩)]
  n : Has u (N + 1) 3 #[.int .i64 n]
  t : Has u (N + 1 + 1) 9 #[.string t]
  p : Has u (N + 1 + 1 + 1) 3 #[.int .i64 p]
theorem commitBox_of {u : World} {gs N g : Nat} {n : Int} {t : ByteArray} {p : Nat} (h : Boxes u (commitXs gs N g n t p)) : CommitBox u N g n t p :=
  ⟨h (N, _, _) (by simp [commitXs]), h (N + 1, _, _) (by simp [commitXs]), h (N + 1 + 1, _, _) (by simp [commitXs]), h (N + 1 + 1 + 1, _, _) (by simp [commitXs])⟩
set_option maxRecDepth 100000 in
theorem wal_commitChain (b : List (Option Nat)) (gd g m1 m2 : Nat) (R : Rw) (n : Int) (t : ByteArray) (p gs : Nat) (w wc : World) (h : LR w b gd g m1 m2 R) (hfit : Fit R.D 4) (hs : R.slot < 2) (hnum : R.number < 4) (hnf : R.nf ≤ 100000) (hp : p ≤ 4611686018427387904)
    (hb : Below w.heap.size w wc) (hgx : Has wc gs 50 ((commitFs w.heap.size).map (fun x => Value.func (.func x.1) #[] x.2)).toArray) (hx : CommitBox wc w.heap.size g n t p) (hgs : w.heap.size ≤ gs) :
    Calls Try.prog 68 #[.slice (some ⟨gs, 0, none⟩) 3 3] wc fun e w' => e = .returned (.int .i64 (upTo (commitEs R n t p) 3).2) ∧ Held w b gd g m1 m2 (commitXs gs w.heap.size g n t p) (commitR R n t p (upTo (commitEs R n t p) 3).1) w' := by
  refine wal_chain (commitFs w.heap.size) gs 3 w b gd g m1 m2 _ (commitR R n t p) (commitEs R n t p) 50 wc rfl (by omega) (by simp [commitXs]) ⟨b, h.below hb, ?_, ?_, Turn.below _ hb⟩ ?_ ?_
  · intro x hx2
    simp only [commitXs, List.mem_cons, List.not_mem_nil, or_false] at hx2
    rcases hx2 with rfl | rfl | rfl | rfl | rfl
    · exact hgx
    · exact hx.l
    · exact hx.n
    · exact hx.t
    · exact hx.p
  · intro x hx2 h2
    have h3 := h.lt h2
    simp only [commitXs, List.mem_cons, List.not_mem_nil, or_false] at hx2
    rcases hx2 with rfl | rfl | rfl | rfl | rfl <;> simp only at h3 <;> omega
  · intro i k cs hi u
    have h4 : i < 3 := (List.getElem?_eq_some_iff.1 hi).1
    obtain rfl | rfl | rfl : i = 0 ∨ i = 1 ∨ i = 2 := by omega
    · cases hi; exact enter_Commit1 _ _
    · cases hi; exact enter_Commit2 _ _
    · cases hi; exact enter_Commit3 _ _
  · intro i k cs hi u b' hl hx2 ho hu
    have h4 : i < 3 := (List.getElem?_eq_some_iff.1 hi).1
    have hB := commitBox_of hx2
    obtain ⟨a1, a2, a3, _⟩ := app_same R n t
    have f1 : Fit (R.app n t).D 3 := app_fit hfit n t
    have f2 : Fit ((R.app n t).D.sync 1) 2 := f1.sync _
    obtain rfl | rfl | rfl : i = 0 ∨ i = 1 ∨ i = 2 := by omega
    · cases hi
      exact wal_Commit1 b' gd g m1 m2 R n t _ _ _ u hl hB.l hB.n hB.t (hfit.less (by omega)) hnf
    · cases hi
      exact (wal_Commit2 b' gd g m1 m2 (R.app n t) _ u hl hB.l (f1.less (by omega))).mono fun e w' hp => LinkPost.ofDisk (R := R.app n t) hl hp
    · cases hi
      exact wal_Commit3 b' gd g m1 m2 { R.app n t with D := (R.app n t).D.sync 1 } p _ _ u hl hB.l hB.p f2 (a1 ▸ hs) (a2 ▸ hnum) (show (R.app n t).nf ≤ _ by omega) hp

end Go.Proofs.Ytjihboddejaelaa

/-
  Commit of package wal: the whole.
-/
namespace Go.Proofs.Ytjihboddejaelaa
set_option linter.unusedVariables false
set_option linter.unusedSimpArgs false
open Go.RowKit
open Go.BigFrame
open Go.Maps
set_option linter.unusedVariables false
set_option linter.unusedSimpArgs false

section
variable {w0 w w' : World} {b c : List (Option Nat)} {gd g m1 m2 m n : Nat} {R : Rw} {f : Int → Nat}
/-- another point stands in the place of kept -/
theorem LR.newKept (h : LR w b gd g m1 m2 R) (ht : Turn c (b ++ lb g m1 m2) w0 w) (hm : MP w m n f) (hoff : some m ∉ b ++ lb g m1 m2) (hlow : w0.heap.size ≤ m) (p : Nat) :
    LR (((w.setCell ⟨g, 4, none⟩ (.int .i64 n)).setCell ⟨g, 5, none⟩ (.int .i64 p)).setCell ⟨g, 6, none⟩ (.map (some m))) b gd g m1 m { R with kf := n, kp := p, f2 := f } ∧
    Turn c (b ++ lb g m1 m) w0 (((w.setCell ⟨g, 4, none⟩ (.int .i64 n)).setCell ⟨g, 5, none⟩ (.int .i64 p)).setCell ⟨g, 6, none⟩ (.map (some m))) := by
  have t1 : Turn [some g] [some g] w (((w.setCell ⟨g, 4, none⟩ (.int .i64 n)).setCell ⟨g, 5, none⟩ (.int .i64 p)).setCell ⟨g, 6, none⟩ (.map (some m))) := ((Turn.cell g 4 _ w).trans (Turn.cell g 5 _ _)).trans (Turn.cell g 6 _ _)
  have hg : some g ∈ b ++ lb g m1 m2 := List.mem_append_right _ (mem_lb.2 (.inl rfl))
  have hmg : m ≠ g := by rintro rfl; exact hoff hg
  have hm1 : m1 ≠ m := by rintro rfl; exact hoff (List.mem_append_right _ (mem_lb.2 (.inr (.inl rfl))))
  have hmb : some m ∉ b := fun h2 => hoff (List.mem_append_left _ h2)
  refine ⟨⟨h.disk.turn t1 fun k hk h2 => ?_, ((h.has.set 4 _).set 5 _).set 6 _, h.map1.turn t1 fun h3 => h.ne1 (by simpa using h3 : m1 = g).symm, hm.turn t1 fun h3 => hmg (by simpa using h3), hm1, fun k hk h2 => ?_⟩, ?_⟩
  · have : k = g := by simpa using hk
    subst this; exact h.off.1 h2
  · rcases mem_lb.1 h2 with rfl | rfl | rfl
    · exact h.off.1 hk
    · exact h.off.2.1 hk
    · exact hmb hk
  · refine ht.trans' t1 (fun k hk => ?_) (fun k hk => ?_)
    · have : k = g := by simpa using hk
      subst this; exact hg
    · rcases List.mem_append.1 hk with h2 | h2
      · exact .inl (List.mem_append_left _ h2)
      · rcases mem_lb.1 h2 with rfl | rfl | rfl
        · exact .inl hg
        · exact .inl (List.mem_append_right _ (mem_lb.2 (.inr (.inl rfl))))
        · exact .inr hlow
end
theorem commitR_nf (R : Rw) (n : Int) (t : ByteArray) (p k : Nat) : (commitR R n t p k).nf ≤ R.nf + 1 := by
  obtain ⟨_, _, a3, _⟩ := app_same R n t
  unfold commitR
  split
  · exact Nat.le_succ _
  · exact a3
  · exact a3
  · rw [(tell_same _ _ _).1]; exact a3

def commitW (w : World) (g : Nat) (n : Int) (t : ByteArray) (p : Nat) : World := (((w.alloc (.cells #[.pointer (some ⟨g, 0, none⟩)] 36)).alloc (.cells #[.int .i64 n] 3)).alloc (.cells #[.string t] 9)).alloc (.cells #[.int .i64 p] 3)
theorem commitW_box (w : World) (g : Nat) (n : Int) (t : ByteArray) (p : Nat) : CommitBox (commitW w g n t p) w.heap.size g n t p ∧ Below w.heap.size w (commitW w g n t p) ∧ (commitW w g n t p).heap.size = w.heap.size + 4 := by
  have a1 := Has.new w 36 #[.pointer (some ⟨g, 0, none⟩)]
  have a2 := Has.new (w.alloc (.cells #[.pointer (some ⟨g, 0, none⟩)] 36)) 3 #[.int .i64 n]
  have a3 := Has.new ((w.alloc (.cells #[.pointer (some ⟨g, 0, none⟩)] 36)).alloc (.cells #[.int .i64 n] 3)) 9 #[.string t]
  have a4 := Has.new (((w.alloc (.cells #[.pointer (some ⟨g, 0, none⟩)] 36)).alloc (.cells #[.int .i64 n] 3)).alloc (.cells #[.string t] 9)) 3 #[.int .i64 p]
  rw [World.size_alloc] at a2
  rw [World.size_alloc, World.size_alloc] at a3
  rw [World.size_alloc, World.size_alloc, World.size_alloc] at a4
  exact ⟨⟨((a1.alloc _).alloc _).alloc _, (a2.alloc _).alloc _, a3.alloc _, a4⟩, ((((Below.refl _ _).alloc (Nat.le_refl _) _).alloc (by simp) _).alloc (by simp; omega) _).alloc (by simp; omega) _, by simp [commitW]⟩

set_option maxRecDepth 100000 in
set_option maxHeartbeats 3200000 in
theorem wal_Commit (b : List (Option Nat)) (gd g m1 m2 : Nat) (R : Rw) (n : Int) (t : ByteArray) (p : Int) (w : World) (h : LR w b gd g m1 m2 R) (hfit : Fit R.D 4) (hs : R.slot < 2) (hnum : R.number < 4) (hnf : R.nf ≤ 100000) :
    Calls Try.prog 19 #[.pointer (some ⟨g, 0, none⟩), .int .i64 n, .string t, .int .i64 p] w (MapsPost w b gd g m1 m2 (R.commit n t p) (.int .i64 (R.commitE n t p))) := by
  by_cases hp : 1 ≤ p ∧ p ≤ 65536
  · obtain ⟨q, rfl⟩ : ∃ q : Nat, p = q := ⟨p.toNat, (Int.toNat_of_nonneg (by omega)).symm⟩
    have r1 := Lib.hid (show R.commit n t q = if (upTo (commitEs R n t q) 3).2 = 0 then { commitR R n t q (upTo (commitEs R n t q) 3).1 with np := q, kf := (commitR R n t q (upTo (commitEs R n t q) 3).1).nf, kp := q, f2 := (commitR R n t q (upTo (commitEs R n t q) 3).1).f1 } else commitR R n t q (upTo (commitEs R n t q) 3).1 from if_pos hp)
    have r2 : R.commitE n t q = (upTo (commitEs R n t q) 3).2 := if_pos hp
    rw [r2]
    have HB := Lib.hid (commitW_box w g n t q)
    have d1 : decide ((q : Int) < 1) = false := by simp; omega
    have d2 : decide ((65536 : Int) < (q : Int)) = false := by simp; omega
    have CH := Lib.hid (fun (W : World) (hW : Below w.heap.size w W) (hbx : CommitBox W w.heap.size g n t q) => wal_commitChain b gd g m1 m2 R n t q W.heap.size w (W.alloc (.cells ((commitFs w.heap.size).map (fun x => Value.func (.func x.1) #[] x.2)).toArray 50)) h hfit hs hnum hnf (by omega) (hW.alloc hW.size _) (Has.new _ _ _) ⟨hbx.l.alloc _, hbx.n.alloc _, hbx.t.alloc _, hbx.p.alloc _⟩ hW.size)
    obtain ⟨E, hE⟩ : ∃ E, (upTo (commitEs R n t q) 3).2 = E := ⟨_, rfl⟩
    have hC := commitR_nf R n t q (upTo (commitEs R n t q) 3).1
    obtain ⟨C, hC2⟩ : ∃ C, commitR R n t q (upTo (commitEs R n t q) 3).1 = C := ⟨_, rfl⟩
    rw [hC2] at hC
    rw [hE, hC2] at CH r1
    rw [hE]
    have HL := Lib.hid h
    have HQ := Lib.hid hp
    have HNF := Lib.hid (show C.nf ≤ 1000000 by omega)
    clear hE hC hC2 h hfit hp r2 hnf
    go_enter Try.func19, Try.ntmps19
    go_upto_region 1 with fail
    rw [show (((w.alloc (.cells #[.pointer (some ⟨g, 0, none⟩)] 36)).alloc (.cells #[.int .i64 n] 3)).alloc (.cells #[.string t] 9)).alloc (.cells #[.int .i64 q] 3) = commitW w g n t q from rfl]
    generalize commitW w g n t q = W at *
    obtain ⟨hbx, hbw, hsz⟩ := HB.out
    have HBX := Lib.hid hbx; have HBW := Lib.hid hbw; have HSZ := Lib.hid hsz
    have x0 := hbx.l.cell 0
    have x3 := hbx.p.cell 0
    have CW := Lib.hid (CH.out W hbw hbx)
    clear hbx hbw hsz HB CH
    have CP := Lib.hid (fun w1 (h1 : MP w1 m1 C.nf C.f1) => wal_copied m1 C.nf q C.nf C.f1 w1 HNF.out h1)
    go_wp2_with ((go_at_call 68; refine CW.out.mono ?_); rintro e w2 ⟨rfl, hH⟩; obtain ⟨b', hl, hx, ho, ht⟩ := hH; have HL2 := Lib.hid hl; have HX := Lib.hid (commitBox_of hx); have HT := Lib.hid ht; have HOG := Lib.hid (ho (w.heap.size, 36, #[.pointer (some ⟨g, 0, none⟩)]) (by simp [commitXs])); have y0 := (commitBox_of hx).l.cell 0; have y3 := (commitBox_of hx).p.cell 0; obtain ⟨z1, z2, z3⟩ := hl.now; obtain ⟨z4, z5, z6⟩ := hl.old; have zf := hl.has.frozen; have gz := hl.has.lt; clear hl hx ho ht)
    · have hE0 : E = 0 := by rename_i hE; simpa using hE
      have R1 := Lib.hid (r1.out.trans (if_pos hE0))
      have HS := Lib.hid (HL2.out.set 2 (.int .i64 q) { C with np := q } rfl rfl HL2.out.map1 HL2.out.map2)
      have HY := Lib.hid (HX.out.l.far (p := ⟨g, 2, none⟩) (fun e => HOG.out (by rw [e]; exact List.mem_append_right _ (mem_lb.2 (.inl rfl)))) (.int .i64 q))
      clear y0 y3 z1 z2 z3 z4 z5 z6 zf gz x0 x3 CW
      generalize w2.setCell ⟨g, 2, none⟩ (.int .i64 q) = V at *
      have y0 := HY.out.cell 0
      have LV := Lib.hid HS.out.1
      obtain ⟨z1, z2, z3⟩ := LV.out.now
      obtain ⟨z4, z5, z6⟩ := LV.out.old
      have zf := LV.out.has.frozen
      have gz := LV.out.has.lt
      have LD := Lib.hid (LV.out.below (Below.refl _ _).drew)
      have YD := Lib.hid (HY.out.belowS (Below.refl _ _).drew)
      go_region_with ((go_at_call 66; refine (CP.out _ LD.out.map1).mono ?_); rintro e w3 ⟨m, rfl, hm, hlow, hb⟩; have HM := Lib.hid hm; have HW := Lib.hid hlow; have HB := Lib.hid hb; have c1 := (LD.out.below hb).old; have y1 := (LD.out.below hb).has.lt; have yf := (LD.out.below hb).has.frozen; have yl := (YD.out.belowS hb).cell 0; clear hm hlow hb; obtain ⟨c1, c2, c3⟩ := c1)
      all_goals
        go_wp2_with fail
        go_ret
        have H3 := LD.out.below HB.out
        have hv : Turn (b' ++ lb g m1 m2) (b' ++ lb g m1 m2) V V.drew := Turn.below _ (Below.refl _ _).drew
        obtain ⟨h4, t4⟩ := H3.newKept (hv.trans (Turn.below _ HB.out)) HM.out (fun h3 => by have := LD.out.lt h3; have := HW.out; omega) HW.out q
        rw [hE0, R1.out]
        exact ⟨rfl, b', m1, m, h4, (HT.out.trans HS.out.2).trans t4⟩
    · have hE0 : E ≠ 0 := by rename_i hE; simpa using hE
      go_ret
      rw [r1.out, if_neg hE0]
      exact ⟨rfl, b', m1, m2, HL2.out, HT.out⟩
  · have r1 : R.commit n t p = R := if_neg hp
    have r2 : R.commitE n t p = 1 := if_neg hp
    rw [r1, r2]
    have HL := Lib.hid h
    clear h hfit
    by_cases h1 : 1 ≤ p
    · have d1 : decide (p < 1) = false := by simp; omega
      have d2 : decide ((65536 : Int) < p) = true := by simp; omega
      clear hp h1 hs hnum hnf
      go_enter Try.func19, Try.ntmps19
      go_wp2_with fail
      go_ret
      refine ⟨rfl, b, m1, m2, HL.out.below ?_, Turn.below _ ?_⟩ <;> exact ((((Below.refl _ _).alloc (Nat.le_refl _) _).alloc (by simp) _).alloc (by simp; omega) _).alloc (by simp; omega) _
    · have d1 : decide (p < 1) = true := by simp; omega
      clear hp h1 hs hnum hnf
      go_enter Try.func19, Try.ntmps19
      go_wp2_with fail
      go_ret
      refine ⟨rfl, b, m1, m2, HL.out.below ?_, Turn.below _ ?_⟩ <;> exact ((((Below.refl _ _).alloc (Nat.le_refl _) _).alloc (by simp) _).alloc (by simp; omega) _).alloc (by simp; omega) _

end Go.Proofs.Ytjihboddejaelaa

/-
  last of package wal: the commit that a log's text tells last.
-/
namespace Go.Proofs.Ytjihboddejaelaa
set_option linter.unusedVariables false
set_option linter.unusedSimpArgs false
open Go.RowKit
open Go.BigFrame
open Go.Maps
set_option linter.unusedVariables false
set_option linter.unusedSimpArgs false

structure LastSt where
  sl : Nat
  nu : Nat
  f : Nat
  p : Nat
def lastSt (l : List UInt8) (p0 : Nat) : Nat → LastSt
  | 0 => ⟨0, 0, 0, p0⟩
  | k + 1 => if (slotOf l k).1 ≠ 0 ∧ ((lastSt l p0 k).nu = 0 ∨ (slotOf l k).1 = (lastSt l p0 k).nu % 3 + 1) then ⟨k, (slotOf l k).1, (slotOf l k).2.1, (slotOf l k).2.2⟩ else lastSt l p0 k
def lastCells (gd : Nat) (a1 a2 a3 a6 : Value) (S : LastSt) : Array Value := #[.pointer (some ⟨gd, 0, none⟩), a1, a2, a3, .int .i64 S.f, .int .i64 S.p, a6, .int .i64 S.sl, .int .i64 S.nu]
def lastOf (l : List UInt8) (p0 : Nat) : LastSt := if l.take 16 = markL then lastSt l p0 2 else ⟨0, 0, 0, p0⟩
theorem lastOf_none {l : List UInt8} {p0 : Nat} (h : slotIx l = 2) : lastOf l p0 = ⟨0, 0, 0, p0⟩ := by
  unfold lastOf
  split
  · rename_i hm
    unfold slotIx at h
    split at h
    · rename_i h1
      rcases h1 with h1 | h1
      · exact absurd hm h1
      · rw [lastSt, if_neg (fun h2 => h2.1 h1.2), lastSt, if_neg (fun h2 => h2.1 h1.1)]; rfl
    · split at h <;> cases h
  · rfl
theorem lastOf_some {l : List UInt8} {p0 : Nat} (h : slotIx l ≠ 2) : lastOf l p0 = ⟨slotIx l, (slotOf l (slotIx l)).1, (slotOf l (slotIx l)).2.1, (slotOf l (slotIx l)).2.2⟩ := by
  obtain ⟨g1, g2, hm⟩ := slotIx_good h
  unfold lastOf
  rw [if_pos hm]
  unfold slotIx at h
  split at h
  · exact absurd rfl h
  · rename_i h1
    have hix : slotIx l = if (slotOf l 0).1 = 0 ∨ (slotOf l 1).1 ≠ 0 ∧ (slotOf l 1).1 = (slotOf l 0).1 % 3 + 1 then 1 else 0 := by unfold slotIx; rw [if_neg h1]
    rw [lastSt]
    by_cases h0 : (slotOf l 0).1 = 0
    · have e1 : lastSt l p0 1 = ⟨0, 0, 0, p0⟩ := by rw [lastSt, if_neg (fun h2 => h2.1 h0)]; rfl
      have n1 : (slotOf l 1).1 ≠ 0 := fun e => h1 (.inr ⟨h0, e⟩)
      rw [e1, if_pos ⟨n1, .inl rfl⟩, hix, if_pos (.inl h0)]
    · have e1 : lastSt l p0 1 = ⟨0, (slotOf l 0).1, (slotOf l 0).2.1, (slotOf l 0).2.2⟩ := by rw [lastSt, if_pos ⟨h0, .inl rfl⟩]
      rw [e1]
      by_cases h2 : (slotOf l 1).1 ≠ 0 ∧ (slotOf l 1).1 = (slotOf l 0).1 % 3 + 1
      · rw [if_pos ⟨h2.1, .inr h2.2⟩, hix, if_pos (.inr h2)]
      · rw [if_neg (fun h3 => h3.2.elim h0 fun h4 => h2 ⟨h3.1, h4⟩), hix, if_neg (fun h3 => h3.elim h0 h2)]
theorem lastOf_nu (l : List UInt8) (p0 : Nat) : decide (0 < (lastOf l p0).nu) = !decide (slotIx l = 2) := by
  by_cases h : slotIx l = 2
  · rw [lastOf_none h, decide_eq_true h]; rfl
  · have := (slotIx_good h).2.1
    rw [lastOf_some h, decide_eq_false h]
    simp only [Bool.not_false, decide_eq_true_eq]; omega

def LastPost (w : World) (g gd : Nat) (a1 a2 a3 a6 : Value) (S : LastSt) (e : Ending) (w' : World) : Prop :=
  e = .returned (.bool (decide (0 < S.nu))) ∧ Has w' g 106 (lastCells gd a1 a2 a3 a6 S) ∧ Turn [some g] [some g] w w'
set_option maxRecDepth 100000 in
set_option maxHeartbeats 6400000 in
theorem wal_last (g gd p0 : Nat) (a1 a2 a3 a6 : Value) (s : ByteArray) (w : World) (h : Has w g 106 (lastCells gd a1 a2 a3 a6 ⟨0, 0, 0, p0⟩)) (hs : s.size ≤ 67108864) :
    Calls Try.prog 63 #[.pointer (some ⟨g, 0, none⟩), .string s] w (LastPost w g gd a1 a2 a3 a6 (lastOf s.data.toList p0)) := by
  by_cases hm : s.data.toList.take 16 = markL
  · have hz : 16 ≤ s.size := by
      have : (s.data.toList.take 16).length = 16 := by rw [hm]; rfl
      rw [List.length_take, Array.length_toList] at this
      have e : s.data.size = s.size := rfl
      omega
    have e1 : s.extract 0 16 = ⟨#[114, 101, 108, 115, 116, 111, 114, 101, 32, 108, 111, 103, 32, 48, 48, 49]⟩ := by
      rw [extr_part]; show bsOf (partL _ 0 16) = _
      rw [partL_zero, hm]; rfl
    have E := Lib.hid (show lastOf s.data.toList p0 = lastSt s.data.toList p0 2 from if_pos hm)
    have HS := Lib.hid hs
    rw [E.out]
    have HH := Lib.hid h
    have z0 : ¬ ((s.size : Int) < 16) := by omega
    clear h hm E hs
    have SA := Lib.hid (fun (k : Nat) (hk : k < 2) w1 => wal_slotAt s k hk HS.out w1)
    go_enter Try.func63, Try.ntmps63
    generalize (⟨#[114, 101, 108, 115, 116, 111, 114, 101, 32, 108, 111, 103, 32, 48, 48, 49]⟩ : ByteArray) = MK at *
    go_wp2_with fail
    go_loopw [18] (fun v18 wr => ∃ k : Nat, k ≤ 2 ∧ v18 = .int .i64 k ∧ Has wr g 106 (lastCells gd a1 a2 a3 a6 (lastSt s.data.toList p0 k)) ∧ Turn [some g] [some g] w wr) (fun v18 _ => 2 - (intOf v18).toNat)
    case atStart => exact ⟨0, by omega, rfl, HH.out, Turn.refl _ _⟩
    case round =>
      obtain ⟨k, hk, rfl, hh, ht⟩ := hrel
      have HR := Lib.hid hh
      have HT := Lib.hid ht
      clear hh ht HH z0 e1 hz
      by_cases hk2 : k < 2
      · have SK := Lib.hid (SA.out k hk2)
        obtain ⟨S, hS⟩ : ∃ S, lastSt s.data.toList p0 k = S := ⟨_, rfl⟩
        have ES := Lib.hid (show lastSt s.data.toList p0 (k + 1) = if (slotOf s.data.toList k).1 ≠ 0 ∧ (S.nu = 0 ∨ (slotOf s.data.toList k).1 = S.nu % 3 + 1) then ⟨k, (slotOf s.data.toList k).1, (slotOf s.data.toList k).2.1, (slotOf s.data.toList k).2.2⟩ else S by rw [lastSt, hS])
        rw [hS] at HR
        clear SA hS
        go_upto_region 7 with (go_at_call 102; (with_reducible refine (SK.out _).mono ?_); rintro e w1 ⟨n, f, p, b, rfl, hsl, hb⟩; have HSL := Lib.hid hsl; have H1 := Lib.hid (HR.out.belowS hb); have HT1 := Lib.hid (HT.out.trans (Turn.below _ hb)); clear hsl hb)
        have x8 : w1.cell? ⟨g, 8, none⟩ = some (.int .i64 S.nu) := H1.out.cell 8
        have x7 : w1.cell? ⟨g, 7, none⟩ = some (.int .i64 S.sl) := H1.out.cell 7
        have x4 : w1.cell? ⟨g, 4, none⟩ = some (.int .i64 S.f) := H1.out.cell 4
        have x5 : w1.cell? ⟨g, 5, none⟩ = some (.int .i64 S.p) := H1.out.cell 5
        have xz := H1.out.lt
        have xf := H1.out.frozen
        cases b with
        | false =>
          have E1 := Lib.hid (show lastSt s.data.toList p0 (k + 1) = S by
            have h0 := HSL.out.1
            rw [ES.out, if_neg]
            intro h2
            exact absurd h0.symm (by rw [decide_eq_true h2.1]; decide))
          clear HSL ES
          go_wp2_with fail
          go_roundw
          case rel => exact ⟨k + 1, by omega, by simp, by rw [E1.out]; exact H1.out, HT1.out⟩
          case measure => simp [intOf]; omega
        | true =>
          have hsl := HSL.out.2 rfl
          have hn0 : n ≠ 0 := by
            have h0 := HSL.out.1
            rw [hsl] at h0
            exact of_decide_eq_true h0.symm
          rw [hsl] at ES
          simp only at ES
          have HSET := Lib.hid (show Has ((((w1.setCell ⟨g, 7, none⟩ (.int .i64 k)).setCell ⟨g, 8, none⟩ (.int .i64 n)).setCell ⟨g, 4, none⟩ (.int .i64 f)).setCell ⟨g, 5, none⟩ (.int .i64 p)) g 106 (lastCells gd a1 a2 a3 a6 ⟨k, n, f, p⟩) from (((H1.out.set 7 _).set 8 _).set 4 _).set 5 _)
          have TSET := Lib.hid (HT1.out.trans ((((Turn.cell g 7 (.int .i64 k) w1).trans (Turn.cell g 8 (.int .i64 n) _)).trans (Turn.cell g 4 (.int .i64 f) _)).trans (Turn.cell g 5 (.int .i64 p) _)))
          have EN := Lib.hid hn0
          clear HSL hsl hn0
          by_cases h0 : S.nu = 0
          · have E1 := Lib.hid (show lastSt s.data.toList p0 (k + 1) = ⟨k, n, f, p⟩ by rw [ES.out, if_pos ⟨EN.out, .inl h0⟩])
            have t0 : (S.nu : Int) = 0 := by omega
            rw [t0] at x8
            clear ES h0
            go_wp2_with fail
            go_roundw
            case rel => exact ⟨k + 1, by omega, by simp, by rw [E1.out]; exact HSET.out, TSET.out⟩
            case measure => simp [intOf]; omega
          · have t0 : ((S.nu : Int) == 0) = false := by simp; exact h0
            by_cases h1 : n = S.nu % 3 + 1
            · have E1 := Lib.hid (show lastSt s.data.toList p0 (k + 1) = ⟨k, n, f, p⟩ by rw [ES.out, if_pos ⟨EN.out, .inr h1⟩])
              have T1 := Lib.hid (show (n : Int) = (S.nu : Int) % 3 + 1 by omega)
              have t2 : ((n : Int) == (S.nu : Int) % 3 + 1) = true := by simp; omega
              clear ES h0 h1
              go_wp2_with fail
              go_roundw
              case rel =>
                have q1 := HSET.out
                have q2 := TSET.out
                exact ⟨k + 1, by omega, by simp, by rw [E1.out]; exact q1, q2⟩
              case measure => simp [intOf]; omega
            · have E1 := Lib.hid (show lastSt s.data.toList p0 (k + 1) = S by rw [ES.out, if_neg (fun h2 => h2.2.elim h0 h1)])
              have t2 : ((n : Int) == (S.nu : Int) % 3 + 1) = false := by rw [beq_eq_false_iff_ne]; omega
              clear ES h0 h1
              go_wp2_with fail
              go_roundw
              case rel => exact ⟨k + 1, by omega, by simp, by rw [E1.out]; exact H1.out, HT1.out⟩
              case measure => simp [intOf]; omega
      · obtain rfl : k = 2 := by omega
        have x8 := HR.out.cell 8
        have xz := HR.out.lt
        simp only [lastCells] at x8
        go_wp2_with fail
        go_ret
        exact ⟨rfl, HR.out, HT.out⟩
  · have E := Lib.hid (show lastOf s.data.toList p0 = ⟨0, 0, 0, p0⟩ from if_neg hm)
    rw [E.out]
    have HH := Lib.hid h
    by_cases hz : s.size < 16
    · have z0 : (s.size : Int) < 16 := by omega
      clear h hm hz
      go_enter Try.func63, Try.ntmps63
      generalize (⟨#[114, 101, 108, 115, 116, 111, 114, 101, 32, 108, 111, 103, 32, 48, 48, 49]⟩ : ByteArray) = MK at *
      go_wp2_with fail
      go_ret
      exact ⟨rfl, HH.out, Turn.refl _ _⟩
    · have z0 : ¬ ((s.size : Int) < 16) := by omega
      have e1 : s.extract 0 16 ≠ ⟨#[114, 101, 108, 115, 116, 111, 114, 101, 32, 108, 111, 103, 32, 48, 48, 49]⟩ := fun e => hm (by
        rw [extr_part] at e
        have e2 := congrArg (fun x : ByteArray => x.data.toList) e
        simp only at e2
        rw [bsOf_list] at e2
        have e3 : partL s.data.toList 0 16 = markL := e2
        rw [partL_zero] at e3; exact e3)
      have z16 : 16 ≤ s.size := by omega
      clear h hm hz
      go_enter Try.func63, Try.ntmps63
      generalize (⟨#[114, 101, 108, 115, 116, 111, 114, 101, 32, 108, 111, 103, 32, 48, 48, 49]⟩ : ByteArray) = MK at *
      have e2 : ((s.extract 0 16).toList == MK.toList) = false := by
        rw [beq_eq_false_iff_ne]
        intro e
        rw [Lib.toList_data, Lib.toList_data] at e
        exact e1 (ByteArray.ext (Array.toList_inj.1 e))
      clear e1
      go_wp2_with fail
      go_ret
      exact ⟨rfl, HH.out, Turn.refl _ _⟩

end Go.Proofs.Ytjihboddejaelaa

/-
  Open of package wal, over a disk that does not fail.
-/
namespace Go.Proofs.Ytjihboddejaelaa
set_option linter.unusedVariables false
set_option linter.unusedSimpArgs false
open Go.RowKit
open Go.BigFrame
open Go.Maps
set_option linter.unusedVariables false
set_option linter.unusedSimpArgs false

theorem make_none2 (w : World) : (Instr.makeMap 102 none).run Try.prog w = .ok (.map (some w.heap.size)) (w.alloc (.map #[] 0)) := rfl
def halfCells (gd m2 kf kp sl nu : Nat) : Array Value := #[.pointer (some ⟨gd, 0, none⟩), .int .i64 0, .int .i64 0, .map none, .int .i64 kf, .int .i64 kp, .map (some m2), .int .i64 sl, .int .i64 nu]
/-- a log that is being opened: its place 'now' stands empty -/
structure Half (w : World) (b : List (Option Nat)) (gd g m2 : Nat) (D : Dk) (kf kp sl nu n : Nat) (f2 : Int → Nat) : Prop where
  disk : DP w b gd D
  has : Has w g 106 (halfCells gd m2 kf kp sl nu)
  map2 : MP w m2 n f2
  offg : some g ∉ b
  offm : some m2 ∉ b
section
variable {w w' : World} {b b' : List (Option Nat)} {gd g m2 kf kp sl nu n : Nat} {D D' : Dk} {f2 : Int → Nat}
theorem Half.below (h : Half w b gd g m2 D kf kp sl nu n f2) (hb : Below w.heap.size w w') : Half w' b gd g m2 D kf kp sl nu n f2 :=
  ⟨h.disk.below hb, h.has.belowS hb, h.map2.below hb, h.offg, h.offm⟩
theorem Half.ne (h : Half w b gd g m2 D kf kp sl nu n f2) : g ≠ m2 := has_map h.has h.map2
theorem Half.put (h : Half w b gd g m2 D kf kp sl nu n f2) {n' : Nat} {f' : Int → Nat} (hm : MP w' m2 n' f') (hg : w.grownBy w' (some m2)) : Half w' b gd g m2 D kf kp sl nu n' f' := by
  have ht := Turn.grown hg
  refine ⟨h.disk.turn ht fun k hk h2 => ?_, h.has.grown hg (fun e => h.ne (Option.some.inj e)), hm, h.offg, h.offm⟩
  have : k = m2 := by simpa using hk
  subst this; exact h.offm h2
theorem Half.lt (h : Half w b gd g m2 D kf kp sl nu n f2) {k : Nat} (hk : some k ∈ b ++ [some g, some m2]) : k < w.heap.size := by
  rcases List.mem_append.1 hk with h2 | h2
  · exact h.disk.lt h2
  · simp at h2
    rcases h2 with rfl | rfl
    · exact h.has.lt
    · exact h.map2.lt
/-- now has been set: the log is there -/
theorem Half.log {w0 : World} {c : List (Option Nat)} {m : Nat} (h : Half w b gd g m2 D kf kp sl nu kf f2) (ht : Turn c (b ++ [some g, some m2]) w0 w) (hm : MP w m kf f2) (hoff : some m ∉ b ++ [some g, some m2]) (hlow : w0.heap.size ≤ m) :
    LR (((w.setCell ⟨g, 1, none⟩ (.int .i64 kf)).setCell ⟨g, 2, none⟩ (.int .i64 kp)).setCell ⟨g, 3, none⟩ (.map (some m))) b gd g m m2 ⟨D, kf, kp, f2, kf, kp, f2, sl, nu⟩ ∧
    Turn c (b ++ lb g m m2) w0 (((w.setCell ⟨g, 1, none⟩ (.int .i64 kf)).setCell ⟨g, 2, none⟩ (.int .i64 kp)).setCell ⟨g, 3, none⟩ (.map (some m))) := by
  have t1 : Turn [some g] [some g] w (((w.setCell ⟨g, 1, none⟩ (.int .i64 kf)).setCell ⟨g, 2, none⟩ (.int .i64 kp)).setCell ⟨g, 3, none⟩ (.map (some m))) := ((Turn.cell g 1 _ w).trans (Turn.cell g 2 _ _)).trans (Turn.cell g 3 _ _)
  have hg : some g ∈ b ++ [some g, some m2] := List.mem_append_right _ (by simp)
  have hmg : m ≠ g := by rintro rfl; exact hoff hg
  have hm2 : m ≠ m2 := by rintro rfl; exact hoff (List.mem_append_right _ (by simp))
  refine ⟨⟨h.disk.turn t1 fun k hk h2 => ?_, ((h.has.set 1 _).set 2 _).set 3 _, hm.turn t1 fun h3 => hmg (by simpa using h3), h.map2.turn t1 fun h3 => h.ne (by simpa using h3 : m2 = g).symm, hm2, fun k hk h2 => ?_⟩, ?_⟩
  · have : k = g := by simpa using hk
    subst this; exact h.offg h2
  · rcases mem_lb.1 h2 with rfl | rfl | rfl
    · exact h.offg hk
    · exact hoff (List.mem_append_left _ hk)
    · exact h.offm hk
  · refine ht.trans' t1 (fun k hk => ?_) (fun k hk => ?_)
    · have : k = g := by simpa using hk
      subst this; exact hg
    · rcases List.mem_append.1 hk with h2 | h2
      · exact .inl (List.mem_append_left _ h2)
      · rcases mem_lb.1 h2 with rfl | rfl | rfl
        · exact .inl hg
        · exact .inr hlow
        · exact .inl (List.mem_append_right _ (by simp))
end
def OpenPost (w : World) (b : List (Option Nat)) (gd : Nat) (R : Rw) (e : Ending) (w' : World) : Prop :=
  ∃ g b' m1 m2, e = .returned (.tuple #[.pointer (some ⟨g, 0, none⟩), .int .i64 0]) ∧ LR w' b' gd g m1 m2 R ∧ Turn b (b' ++ lb g m1 m2) w w'
theorem anewD_begin (D : Dk) : anewD D = beginD D ((D.seen 0).length / 1024) 4 := rfl
theorem frameN_read {l : List UInt8} {s : ByteArray} (hs : bsOf l = s) (k : Nat) : ((frameAt l k).n : Nat) = unK ((s.extract (64 + 1028 * k) s.size).data.toList.take 4) := by
  rw [← hs, extr_part, bsOf_list, bsOf_list, bsOf_size]
  show unK (partL l (64 + 1028 * k) 4) = unK ((partL l (64 + 1028 * k) (l.length - (64 + 1028 * k))).take 4)
  congr 1
  unfold partL
  rw [List.take_take]
  by_cases h : 4 ≤ l.length - (64 + 1028 * k)
  · rw [Nat.min_eq_left h]
  · rw [List.take_of_length_le (by rw [List.length_drop]; omega), List.take_of_length_le (by rw [List.length_drop]; omega)]
theorem open_start (b : List (Option Nat)) (gd p0 : Nat) (D : Dk) (w : World) (h : DP w b gd D) :
    Half ((w.alloc (.map #[] 0)).alloc (.cells #[.pointer (some ⟨gd, 0, none⟩), .int .i64 0, .int .i64 0, .map none, .int .i64 0, .int .i64 p0, .map (some w.heap.size), .int .i64 0, .int .i64 0] 106)) b gd (w.heap.size + 1) w.heap.size D 0 p0 0 0 0 (fun _ => 0) ∧
    Below w.heap.size w ((w.alloc (.map #[] 0)).alloc (.cells #[.pointer (some ⟨gd, 0, none⟩), .int .i64 0, .int .i64 0, .map none, .int .i64 0, .int .i64 p0, .map (some w.heap.size), .int .i64 0, .int .i64 0] 106)) := by
  have b1 : Below w.heap.size w (w.alloc (.map #[] 0)) := (Below.refl _ _).alloc (Nat.le_refl _) _
  have b2 : Below w.heap.size w ((w.alloc (.map #[] 0)).alloc (.cells #[.pointer (some ⟨gd, 0, none⟩), .int .i64 0, .int .i64 0, .map none, .int .i64 0, .int .i64 p0, .map (some w.heap.size), .int .i64 0, .int .i64 0] 106)) := b1.alloc (by simp) _
  have hn := Has.new (w.alloc (.map #[] 0)) 106 #[.pointer (some ⟨gd, 0, none⟩), .int .i64 0, .int .i64 0, .map none, .int .i64 0, .int .i64 p0, .map (some w.heap.size), .int .i64 0, .int .i64 0]
  rw [World.size_alloc] at hn
  exact ⟨⟨h.below b2, hn, (MP.made w).below ((Below.refl _ _).alloc (Nat.le_refl _) _), fun h3 => by have := h.lt h3; omega, fun h3 => by have := h.lt h3; omega⟩, b2⟩

theorem open_turn {B : Nat} {w W w2 : World} {b b2 : List (Option Nat)} {g m2 : Nat} (hB : w.heap.size = B) (hb : Below B w W) (ht : Turn (b ++ [some g]) (b2 ++ [some g]) W w2) (hg : w.heap.size ≤ g) (hm : w.heap.size ≤ m2) : Turn b (b2 ++ [some g, some m2]) w w2 := by
  subst hB
  refine ⟨ht.os.trans hb.os, ht.tape.trans hb.tape, ht.output.trans hb.output, Nat.le_trans hb.size ht.size, fun k hk hn => (ht.block k (Nat.lt_of_lt_of_le hk hb.size) (fun h => ?_)).trans (hb.block k hk), fun k hk => ?_⟩
  · rcases List.mem_append.1 h with h2 | h2
    · exact hn h2
    · have : k = g := by simpa using h2
      omega
  · rcases List.mem_append.1 hk with h2 | h2
    · rcases ht.new k (List.mem_append_left _ h2) with h3 | h3
      · rcases List.mem_append.1 h3 with h4 | h4
        · exact .inl h4
        · have : k = g := by simpa using h4
          exact .inr (by omega)
      · exact .inr (Nat.le_trans hb.size h3)
    · have : k = g ∨ k = m2 := by simpa using h2
      exact .inr (by omega)
theorem lastAt_take {fs : List Fr} {k : Nat} (hk : k < fs.length) {f : Fr} (hf : fs[k]? = some f) (x : Int) (hx : (f.n : Int) = x) : (fun y => if y = x then k + 1 else lastAt (fs.take k) y) = fun y => lastAt (fs.take (k + 1)) y := by
  funext y
  obtain ⟨h1, h2⟩ := List.getElem?_eq_some_iff.1 hf
  rw [List.take_succ_eq_append_getElem h1, h2, lastAt_snoc, hx, List.length_take, Nat.min_eq_left (by omega)]
  by_cases h : y = x
  · rw [if_pos h, if_pos h.symm]
  · rw [if_neg h, if_neg (fun e => h e.symm)]
theorem readS_all2 {D : Dk} (hok : D.ok) {f : Nat} (hf : f < 2) (hd : D.down = false) : D.readS f 0 (D.seen f).length = bsOf (D.seen f) ∧ D.readE f 0 (D.seen f).length = 0 := by
  have hl := hok.seen f
  have hF : fitsF f 0 (D.seen f).length := by unfold fitsF; omega
  refine ⟨(if_pos ⟨hF, hd, by simp⟩).trans (by simp), ?_⟩
  unfold Dk.readE
  rw [if_pos hF, if_neg (by rw [hd]; decide), if_pos (by simp)]

set_option maxRecDepth 100000 in
set_option maxHeartbeats 6400000 in
theorem wal_Open2 (b : List (Option Nat)) (gd : Nat) (D : Dk) (w : World) (h : DP w b gd D) (hfit : Fit D 4) (hd : D.down = false) (hc : slotIx (D.seen 1) = 2 → D.calm) :
    Calls Try.prog 12 #[.pointer (some ⟨gd, 0, none⟩)] w (OpenPost w b gd (Lg.opened D).rw) := by
  have s0 : D.sizeN 0 = ((D.seen 0).length : Int) ∧ D.sizeE 0 = 0 := ⟨if_pos ⟨by omega, by omega, hd⟩, (if_pos (by omega)).trans (if_neg (by rw [hd]; decide))⟩
  have s1 : D.sizeN 1 = ((D.seen 1).length : Int) ∧ D.sizeE 1 = 0 := ⟨if_pos ⟨by omega, by omega, hd⟩, (if_pos (by omega)).trans (if_neg (by rw [hd]; decide))⟩
  have s2 := readS_all2 hfit.ok (f := 1) (by omega) hd
  have T0 := Lib.hid (disk_Size gd D b 0 w h hfit.ok)
  have T1 := Lib.hid (disk_Size gd D b 1 w h hfit.ok)
  have T2 := Lib.hid (disk_Read gd D b 1 0 (D.seen 1).length w h hfit.ok)
  rw [s0.1, s0.2] at T0
  rw [s1.1, s1.2] at T1
  rw [show ((1 : Nat) : Int) = 1 from rfl] at s2
  rw [s2.1, s2.2] at T2
  have l0 := hfit.ok.seen 0
  have l1 := hfit.ok.seen 1
  have OP := Lib.hid (open_start b gd ((D.seen 0).length / 1024) D w h)
  have LO := Lib.hid (opened_ok hfit.ok)
  obtain ⟨n0, hn0⟩ : ∃ n, (D.seen 0).length = n := ⟨_, rfl⟩
  obtain ⟨l, hl⟩ : ∃ l, D.seen 1 = l := ⟨_, rfl⟩
  obtain ⟨s, hs⟩ : ∃ s, bsOf l = s := ⟨_, rfl⟩
  have hz : s.size = l.length := by rw [← hs, bsOf_size]
  have ht : s.data.toList = l := by rw [← hs, bsOf_list]
  rw [hl] at T1 T2 l1
  rw [hs] at T2
  rw [hn0] at T0 l0 OP
  rw [← hz] at T1 T2 l1
  have LA := Lib.hid (fun (p0 : Nat) w1 (h1 : Has w1 (w.heap.size + 1) 106 (lastCells gd (.int .i64 0) (.int .i64 0) (.map none) (.map (some w.heap.size)) ⟨0, 0, 0, p0⟩)) => wal_last (w.heap.size + 1) gd p0 _ _ _ _ s w1 h1 l1)
  rw [ht] at LA
  have HS := Lib.hid hs
  have HL := Lib.hid hl
  have N0 := Lib.hid hn0
  have L0 := Lib.hid l0
  have L1 := Lib.hid l1
  have HZ := Lib.hid hz
  have HF := Lib.hid hfit
  have HC := Lib.hid hc
  have wr0 : wrap64 ((n0 : Int) / 1024) = ((n0 / 1024 : Nat) : Int) := (IntWalk.wrap64_in _ (by omega)).trans (by omega)
  have hmm := make_none2
  obtain ⟨p0, hp0⟩ : ∃ p, n0 / 1024 = p := ⟨_, rfl⟩
  have hp1 : p0 ≤ 65536 := by omega
  rw [hp0] at OP wr0
  have P0 := Lib.hid hp0
  have P1 := Lib.hid hp1
  clear s0 s1 s2 h hfit hd hc hn0 hl hs hz ht l0 l1 hp0 hp1
  go_enter Try.func12, Try.ntmps12
  go_upto_region 11 with (first | (go_at_call 55; (with_reducible refine T0.out.mono ?_); rintro e w1 ⟨rfl, rfl⟩) | (go_at_call 55; (with_reducible refine T1.out.mono ?_); rintro e w1 ⟨rfl, rfl⟩) | (go_at_call 49; (with_reducible refine T2.out.mono ?_); rintro e w1 ⟨rfl, rfl⟩))
  obtain ⟨g, hg⟩ : ∃ g, w.heap.size + 1 = g := ⟨_, rfl⟩
  obtain ⟨m2, hm2⟩ : ∃ g, w.heap.size = g := ⟨_, rfl⟩
  obtain ⟨W, hW⟩ : ∃ W, ((w.alloc (.map #[] 0)).alloc (.cells #[.pointer (some ⟨gd, 0, none⟩), .int .i64 0, .int .i64 0, .map none, .int .i64 0, .int .i64 p0, .map (some w.heap.size), .int .i64 0, .int .i64 0] 106)) = W := ⟨_, rfl⟩
  have OQ := Lib.hid OP.out
  clear OP
  rw [hW, hg] at OQ
  rw [hg] at LA
  rw [hW, hg]
  have HWS := Lib.hid hm2
  have HGS := Lib.hid hg
  clear hW hg
  rw [hm2] at OQ LA ⊢
  clear hm2
  have LW := Lib.hid (LA.out p0 W OQ.out.1.has)
  clear LA hmm wr0
  by_cases hx : slotIx l = 2
  · have E0 := lastOf_none (p0 := p0) hx
    have HX0 := Lib.hid hx
    rw [E0] at LW
    obtain ⟨D', hD'⟩ : ∃ D', beginD D p0 4 = D' := ⟨_, rfl⟩
    obtain ⟨kf, hkf⟩ : ∃ k : Nat, k = 0 := ⟨_, rfl⟩
    obtain ⟨kp, hkp⟩ : ∃ k : Nat, k = p0 := ⟨_, rfl⟩
    obtain ⟨sl, hsl⟩ : ∃ k : Nat, k = 0 := ⟨_, rfl⟩
    obtain ⟨nu, hnu⟩ : ∃ k : Nat, k = 1 := ⟨_, rfl⟩
    obtain ⟨fs, hfs⟩ : ∃ f : List Fr, f = [] := ⟨_, rfl⟩
    have ER := Lib.hid (show (Lg.opened D).rw = ⟨D', kf, kp, fun x => lastAt (fs.take kf) x, kf, kp, fun x => lastAt (fs.take kf) x, sl, nu⟩ by
      have e1 : Lg.opened D = ⟨anewD D, [], 0, (D.seen 0).length / 1024, 0, 1⟩ := if_pos (by rw [HL.out]; exact hx)
      have e2 : anewD D = D' := by rw [← hD', ← P0.out, ← N0.out]; rfl
      rw [e1, e2, N0.out, P0.out, hkf, hkp, hsl, hnu, hfs]; rfl)
    have HKF := Lib.hid (show kf ≤ 100000 by omega)
    have BG := Lib.hid (fun w1 (h1 : DP w1 b gd D) (h2 : Has w1 g 106 (lastCells gd (.int .i64 0) (.int .i64 0) (.map none) (.map (some m2)) ⟨0, 0, 0, p0⟩)) => wal_begin b gd g p0 D _ _ _ _ _ _ _ w1 h1 h2 OQ.out.1.offg HF.out (HC.out (by rw [HL.out]; exact HX0.out)) (by have := P1.out; omega))
    rw [hD'] at BG
    have K0 := Lib.hid hkf; have K1 := Lib.hid hkp; have K2 := Lib.hid hsl; have K3 := Lib.hid hnu
    clear E0 hx hD' hkf hkp hsl hnu hfs
    go_wp2_with (first | (go_at_call 63; (with_reducible refine LW.out.mono ?_); rintro e w1 ⟨rfl, hh, ht⟩; have HH1 := Lib.hid hh; have HT1 := Lib.hid ht; clear hh ht) | (go_at_call 64; (refine (BG.out _ (OQ.out.1.disk.turn HT1.out (fun k hk h3 => OQ.out.1.offg ((show k = g by simpa using hk) ▸ h3))) HH1.out).mono ?_); rintro e w2 ⟨rfl, b2, hd2, hh2, ht2, ho2⟩; have TT := Lib.hid ((HT1.out.right b).trans ht2); have HALF := Lib.hid (show Half w2 b2 gd g m2 D' kf kp sl nu 0 (fun x => lastAt (fs.take 0) x) from by rw [K0.out, K1.out, K2.out, K3.out]; exact ⟨hd2, hh2, OQ.out.1.map2.turn TT.out (fun h3 => (List.mem_append.1 h3).elim OQ.out.1.offm (fun h4 => OQ.out.1.ne (show m2 = g by simpa using h4).symm)), ho2, fun h3 => (TT.out.new m2 (List.mem_append_left _ h3)).elim (fun h5 => (List.mem_append.1 h5).elim OQ.out.1.offm (fun h4 => OQ.out.1.ne (show m2 = g by simpa using h4).symm)) (fun h5 => by have := OQ.out.1.map2.lt; omega)⟩); have y4 : w2.cell? ⟨g, 4, none⟩ = some (.int .i64 0) := hh2.cell 4; have gz := hh2.lt; clear hd2 hh2 ht2 ho2))
    have HT := Lib.hid (open_turn (m2 := m2) HWS.out OQ.out.2 TT.out (by have := HGS.out; omega) (by have := HWS.out; omega))
    go_loopw [56] (fun v56 wr => ∃ k : Nat, k ≤ kf ∧ v56 = .int .i64 k ∧ Half wr b2 gd g m2 D' kf kp sl nu k (fun x => lastAt (fs.take k) x) ∧ Turn b (b2 ++ [some g, some m2]) w wr) (fun v56 _ => kf - (intOf v56).toNat)
    case atStart => exact ⟨0, Nat.zero_le _, rfl, HALF.out, HT.out⟩
    case round =>
      obtain ⟨k, hk, rfl, hh, ht⟩ := hrel
      have HH := Lib.hid hh
      have HTT := Lib.hid ht
      clear hh ht HALF HT
      by_cases hk2 : k < kf
      · exact absurd hk2 (by have := K0.out; omega)
      · have hk3 : k = kf := by omega
        subst hk3
        have HD := Lib.hid HH.out
        have y6 : wr.cell? ⟨g, 6, none⟩ = some (.map (some m2)) := HH.out.has.cell 6
        have y5 : wr.cell? ⟨g, 5, none⟩ = some (.int .i64 kp) := HH.out.has.cell 5
        have y4 : wr.cell? ⟨g, 4, none⟩ = some (.int .i64 k) := HH.out.has.cell 4
        have gz := HH.out.has.lt
        have CP := Lib.hid (fun w1 (h1 : MP w1 m2 k (fun x => lastAt (fs.take k) x)) => wal_copied m2 k kp k _ w1 (by have := HKF.out; omega) h1)
        go_wp2_with ((go_at_call 66; refine (CP.out _ HD.out.map2).mono ?_); rintro e w3 ⟨m, rfl, hm, hlow, hb⟩; have HM := Lib.hid hm; have HW := Lib.hid hlow; have HB := Lib.hid hb; have hh3 := (HD.out.below hb).has; have c1 : w3.cell? ⟨g, 1, none⟩ = some (.int .i64 0) := hh3.cell 1; have c2 : w3.cell? ⟨g, 2, none⟩ = some (.int .i64 0) := hh3.cell 2; have c3 : w3.cell? ⟨g, 3, none⟩ = some (.map none) := hh3.cell 3; have y1 := hh3.lt; have yf := hh3.frozen; clear hm hlow hb hh3)
        go_ret2
        obtain ⟨h4, t4⟩ := (HD.out.below HB.out).log (Turn.below _ HB.out) HM.out (fun h3 => by have := HD.out.lt h3; have := HW.out; omega) HW.out
        refine ⟨g, b2, m, m2, rfl, ?_, HTT.out.trans t4⟩
        rw [ER.out]
        exact h4
  · have E0 := lastOf_some (p0 := p0) hx
    rw [E0] at LW
    obtain ⟨G1, G2, _⟩ := slotIx_good hx
    obtain ⟨G3, G4, G5⟩ := slotOf_good G2
    obtain ⟨D', hD'⟩ : ∃ D', D = D' := ⟨_, rfl⟩
    have e1 : Lg.opened D = ⟨D, framesOf l (slotOf l (slotIx l)).2.1, (slotOf l (slotIx l)).2.1, (slotOf l (slotIx l)).2.2, slotIx l, (slotOf l (slotIx l)).1⟩ := by
      rw [← HL.out]; exact if_neg (by rw [HL.out]; exact hx)
    obtain ⟨kf, hkf⟩ : ∃ k : Nat, (slotOf l (slotIx l)).2.1 = k := ⟨_, rfl⟩
    obtain ⟨kp, hkp⟩ : ∃ k : Nat, (slotOf l (slotIx l)).2.2 = k := ⟨_, rfl⟩
    obtain ⟨nu, hnu⟩ : ∃ k : Nat, (slotOf l (slotIx l)).1 = k := ⟨_, rfl⟩
    rw [hkf, hkp, hnu] at LW e1
    rw [hnu] at G2 G3
    rw [hkf] at G4
    obtain ⟨sl, hsl⟩ : ∃ k : Nat, slotIx l = k := ⟨_, rfl⟩
    rw [hsl] at LW e1
    obtain ⟨fs, hfs⟩ : ∃ f : List Fr, framesOf l kf = f := ⟨_, rfl⟩
    have LFS := Lib.hid (show fs.length = kf by rw [← hfs]; exact framesOf_len l kf)
    have HKL := Lib.hid (show ∀ k < kf, 64 + 1028 * k + 1028 ≤ s.size from fun k hk => by have := HZ.out; omega)
    have HFS := Lib.hid (show ∀ k < kf, fs[k]? = some (frameAt l k) from fun k hk => by
      have h1 : k < fs.length := by have := LFS.out; omega
      have h2 := List.getElem?_eq_getElem h1
      rw [h2]
      have h3 := framesOf_get l kf k fs[k] (by rw [hfs]; exact h2)
      rw [h3.2])
    have ER := Lib.hid (show (Lg.opened D).rw = ⟨D', kf, kp, fun x => lastAt (fs.take kf) x, kf, kp, fun x => lastAt (fs.take kf) x, sl, nu⟩ by
      rw [e1, hD', hfs]
      have h1 : fs.take kf = fs := List.take_of_length_le (by have := LFS.out; omega)
      exact rw_eq rfl LFS.out rfl (fun x => by show lastAt fs x = lastAt (fs.take kf) x; rw [h1]) rfl rfl (fun x => rfl) rfl rfl)
    have HKF := Lib.hid (show kf ≤ 100000 by have := HZ.out; have := L1.out; omega)
    have LW2 : Calls Try.prog 63 #[.pointer (some ⟨g, 0, none⟩), .string s] W (fun e w' => e = .returned (.bool true) ∧ Has w' g 106 (lastCells gd (.int .i64 0) (.int .i64 0) (.map none) (.map (some m2)) ⟨sl, nu, kf, kp⟩) ∧ Turn [some g] [some g] W w') := LW.out.mono fun e w' h => ⟨by rw [h.1]; show _ = Ending.returned (.bool true); rw [decide_eq_true (show 0 < nu by omega)], h.2⟩
    have HLW := Lib.hid LW2
    have OD := Lib.hid (show DP W b gd D' from hD' ▸ OQ.out.1.disk)
    clear LW LW2 E0 hx G1 G2 G3 G4 G5 hD' e1 hkf hkp hnu hsl hfs
    obtain ⟨b2, hb2⟩ : ∃ b2, b = b2 := ⟨_, rfl⟩
    have OF := Lib.hid (show some g ∉ b2 ∧ some m2 ∉ b2 from hb2 ▸ ⟨OQ.out.1.offg, OQ.out.1.offm⟩)
    rw [hb2] at OD
    have BB := Lib.hid hb2
    go_wp2_with (go_at_call 63; (with_reducible refine HLW.out.mono ?_); rintro e w1 ⟨rfl, hh, ht⟩; have TT := Lib.hid (ht.right b); have HALF := Lib.hid (show Half w1 b2 gd g m2 D' kf kp sl nu 0 (fun x => lastAt (fs.take 0) x) from ⟨OD.out.turn ht (fun k hk h3 => OF.out.1 ((show k = g by simpa using hk) ▸ h3)), hh, OQ.out.1.map2.turn ht (fun h4 => OQ.out.1.ne (show m2 = g by simpa using h4).symm), OF.out.1, OF.out.2⟩); have y4 : w1.cell? ⟨g, 4, none⟩ = some (.int .i64 kf) := hh.cell 4; have gz := hh.lt; clear hh ht)
    have HT := Lib.hid (show Turn b (b2 ++ [some g, some m2]) w w1 from hb2 ▸ open_turn (m2 := m2) HWS.out OQ.out.2 TT.out (by have := HGS.out; omega) (by have := HWS.out; omega))
    clear hb2
    go_loopw [56] (fun v56 wr => ∃ k : Nat, k ≤ kf ∧ v56 = .int .i64 k ∧ Half wr b2 gd g m2 D' kf kp sl nu k (fun x => lastAt (fs.take k) x) ∧ Turn b (b2 ++ [some g, some m2]) w wr) (fun v56 _ => kf - (intOf v56).toNat)
    case atStart => exact ⟨0, Nat.zero_le _, rfl, HALF.out, HT.out⟩
    case round =>
      obtain ⟨k, hk, rfl, hh, ht⟩ := hrel
      have HH := Lib.hid hh
      have HTT := Lib.hid ht
      clear hh ht HALF HT
      by_cases hk2 : k < kf
      · have w_k : (k : Int) < (kf : Int) := by omega
        have hkl := HKL.out k hk2
        have hf := HFS.out k hk2
        have NU := Lib.hid (wal_number (s.extract (64 + 1028 * k) s.size) (by rw [ByteArray.size_extract]; omega))
        rw [← frameN_read HS.out k] at NU
        obtain ⟨x, hx⟩ : ∃ x, (frameAt l k).n = x := ⟨_, rfl⟩
        have hxb : x < 4294967296 := by rw [← hx]; exact unK_lt 4 _ (by rw [partL_len]; have := HZ.out; omega)
        rw [hx] at NU
        have HX := Lib.hid hx
        have WX := Lib.hid (wfI (x := (x : Int)) (by omega) (by omega))
        have HD := Lib.hid (HH.out.below (Below.refl _ _).drew)
        have y6 : wr.cell? ⟨g, 6, none⟩ = some (.map (some m2)) := HH.out.has.cell 6
        have gz := HH.out.has.lt
        have kb : k ≤ 100000 := by have := HKF.out; omega
        have q1 : (64 : Int) + (k : Int) * 1028 ≤ (s.size : Int) := by omega
        have q2 : IntKind.i64.wrap (64 + IntKind.i64.wrap ((k : Int) * 1028)) = ((64 + 1028 * k : Nat) : Int) := by
          rw [IntWalk.i64_in ((k : Int) * 1028) (by omega), IntWalk.i64_in (64 + (k : Int) * 1028) (by omega)]; omega
        have TD := Lib.hid (HTT.out.trans (Turn.below _ (Below.refl wr.heap.size wr).drew))
        have LT := Lib.hid (lastAt_take (fs := fs) (k := k) (by have := LFS.out; omega) hf (x : Int) (by rw [← hx]))
        clear hx hf hkl
        go_upto_region 18 with fail
        go_region_with ((go_at_call 65; (refine (NU.out _).mono ?_); rintro e w1 ⟨rfl, hb1⟩; have HH1 := Lib.hid (HD.out.below hb1); have yy6 : w1.cell? ⟨g, 6, none⟩ = some (.map (some m2)) := HH1.out.has.cell 6; have yyz := HH1.out.has.lt; obtain ⟨w3, hrun, hm3, hg3⟩ := HH1.out.map2.put (by omega) (x : Int) (k + 1) WX.out (by omega); rw [show ((k + 1 : Nat) : Int) = (k : Int) + 1 from rfl] at hrun; have HH3 := Lib.hid (HH1.out.put hm3 hg3); have HT3 := Lib.hid ((TD.out.trans (Turn.below _ hb1)).trans ((Turn.grown hg3).wide (c := b2 ++ [some g, some m2]) (c' := b2 ++ [some g, some m2]) (fun j hj => List.mem_append_right _ (by rw [show j = m2 by simpa using hj]; simp)) (fun j hj => .inr hj))); clear hm3 hg3 hb1))
        all_goals
          go_wp2_with fail
          go_roundw
          case rel => exact ⟨k + 1, by omega, by simp, by have q := HH3.out; rw [LT.out] at q; exact q, HT3.out⟩
          case measure => simp [intOf]; omega
      · have hk3 : k = kf := by omega
        subst hk3
        have HD := Lib.hid HH.out
        have y6 : wr.cell? ⟨g, 6, none⟩ = some (.map (some m2)) := HH.out.has.cell 6
        have y5 : wr.cell? ⟨g, 5, none⟩ = some (.int .i64 kp) := HH.out.has.cell 5
        have y4 : wr.cell? ⟨g, 4, none⟩ = some (.int .i64 k) := HH.out.has.cell 4
        have gz := HH.out.has.lt
        have CP := Lib.hid (fun w1 (h1 : MP w1 m2 k (fun x => lastAt (fs.take k) x)) => wal_copied m2 k kp k _ w1 (by have := HKF.out; omega) h1)
        go_wp2_with ((go_at_call 66; refine (CP.out _ HD.out.map2).mono ?_); rintro e w3 ⟨m, rfl, hm, hlow, hb⟩; have HM := Lib.hid hm; have HW := Lib.hid hlow; have HB := Lib.hid hb; have hh3 := (HD.out.below hb).has; have c1 : w3.cell? ⟨g, 1, none⟩ = some (.int .i64 0) := hh3.cell 1; have c2 : w3.cell? ⟨g, 2, none⟩ = some (.int .i64 0) := hh3.cell 2; have c3 : w3.cell? ⟨g, 3, none⟩ = some (.map none) := hh3.cell 3; have y1 := hh3.lt; have yf := hh3.frozen; clear hm hlow hb hh3)
        go_ret2
        obtain ⟨h4, t4⟩ := (HD.out.below HB.out).log (Turn.below _ HB.out) HM.out (fun h3 => by have := HD.out.lt h3; have := HW.out; omega) HW.out
        refine ⟨g, b2, m, m2, rfl, ?_, HTT.out.trans t4⟩
        rw [ER.out]
        exact h4

theorem wal_Open (b : List (Option Nat)) (gd : Nat) (D : Dk) (w : World) (h : DP w b gd D) (hfit : Fit D 4) (hc : D.calm) :
    Calls Try.prog 12 #[.pointer (some ⟨gd, 0, none⟩)] w (OpenPost w b gd (Lg.opened D).rw) := wal_Open2 b gd D w h hfit hc.1 fun _ => hc

end Go.Proofs.Ytjihboddejaelaa

/-
  moved of package relstorekeep: a disk made of another one's files.
-/
namespace Go.Proofs.Ytjihboddejaelaa
set_option linter.unusedVariables false
set_option linter.unusedSimpArgs false
open Go.RowKit
open Go.BigFrame
open Go.Maps
set_option linter.unusedVariables false
set_option linter.unusedSimpArgs false

/-- the new disk behind k files -/
def movedD (D : Dk) : Nat → Dk
  | 0 => Dk.new
  | k + 1 => ((movedD D k).write (k : Nat) 0 (bsOf (D.lasts k))).sync (k : Nat)
theorem moved_fit (D : Dk) : ∀ k, k ≤ 2 → Fit (movedD D k) (20 - 2 * k) ∧ (movedD D k).calm
  | 0, _ => ⟨new_fit.less (by omega), rfl, rfl⟩
  | k + 1, hk => by
    obtain ⟨h1, h2⟩ := moved_fit D k (by omega)
    have h3 : Fit (movedD D k) ((20 - 2 * (k + 1)) + 1 + 1) := h1.less (by omega)
    exact ⟨(h3.write _ _ _).sync _, (h2.write _ _ _).sync _⟩
theorem moved_end (D : Dk) (h : D.ok) : movedD D 2 = plainD D.l0 D.l1 (-1) 4 := by
  have z0 : (bsOf D.l0).size = D.l0.length := bsOf_size _
  have z1 : (bsOf D.l1).size = D.l1.length := bsOf_size _
  have f0 : fitsF (0 : Nat) 0 (bsOf D.l0).size := by have := h.l0; unfold fitsF; omega
  have f1 : fitsF (1 : Nat) 0 (bsOf D.l1).size := by have := h.l1; unfold fitsF; omega
  have p0 : putL [] 0 (bsOf D.l0).data.toList = D.l0 := by rw [bsOf_list, putL_nil]
  have p1 : putL [] 0 (bsOf D.l1).data.toList = D.l1 := by rw [bsOf_list, putL_nil]
  have e1 : movedD D 1 = ⟨D.l0, [], [], -1, false, 2⟩ := by
    show (Dk.new.write (0 : Nat) 0 (bsOf (D.lasts 0))).sync (0 : Nat) = _
    have a : Dk.new.write (0 : Nat) 0 (bsOf (D.lasts 0)) = ⟨[], [], [⟨0, 0, bsOf D.l0, false⟩], -1, false, 1⟩ := (if_pos f0).trans rfl
    rw [a]
    show (⟨putL [] 0 (bsOf D.l0).data.toList, [], [], -1, false, 2⟩ : Dk) = _
    rw [p0]
  show ((movedD D 1).write (1 : Nat) 0 (bsOf (D.lasts 1))).sync (1 : Nat) = _
  rw [e1]
  have a : (⟨D.l0, [], [], -1, false, 2⟩ : Dk).write (1 : Nat) 0 (bsOf (D.lasts 1)) = ⟨D.l0, [], [⟨1, 0, bsOf D.l1, false⟩], -1, false, 3⟩ := (if_pos f1).trans rfl
  rw [a]
  show (⟨D.l0, putL [] 0 (bsOf D.l1).data.toList, [], -1, false, 4⟩ : Dk) = _
  rw [p1]; rfl
theorem moved_step (D : Dk) (h : D.ok) (k : Nat) (hk : k < 2) : (movedD D k).writeE (k : Nat) 0 (bsOf (D.lasts k)) = 0 ∧ ((movedD D k).write (k : Nat) 0 (bsOf (D.lasts k))).syncE (k : Nat) = 0 := by
  obtain ⟨h1, h2⟩ := moved_fit D k (by omega)
  have z : (bsOf (D.lasts k)).size = (D.lasts k).length := bsOf_size _
  have hl := h.lasts k
  exact ⟨(if_pos (show fitsF (k : Nat) 0 (bsOf (D.lasts k)).size from by unfold fitsF; omega)).trans h2.turnE, (syncE_fits hk).trans (h2.write _ _ _).turnE⟩
def MovedPost (w : World) (D : Dk) (e : Ending) (w' : World) : Prop := ∃ g b', e = .returned (.pointer (some ⟨g, 0, none⟩)) ∧ DP w' b' g (plainD D.l0 D.l1 (-1) 4) ∧ Turn [] b' w w'

set_option maxRecDepth 100000 in
set_option maxHeartbeats 3200000 in
theorem keep_moved (b : List (Option Nat)) (gd : Nat) (D : Dk) (w : World) (h : DP w b gd D) (hok : D.ok) (hd : D.down = false) (hw : D.waits = []) :
    Calls Try.prog 24 #[.pointer (some ⟨gd, 0, none⟩)] w (MovedPost w D) := by
  have ME := moved_end D hok
  unfold MovedPost
  rw [← ME]
  have HD := Lib.hid h
  have OK := Lib.hid hok
  have TS := Lib.hid (fun (k : Nat) (hk : k < 2) w1 (h1 : DP w1 b gd D) => by
    have s1 : D.sizeN k = ((D.lasts k).length : Int) ∧ D.sizeE k = 0 := by
      have e : D.seen k = D.lasts k := by unfold Dk.seen; rw [hw]; rfl
      rw [← e]
      exact ⟨if_pos ⟨by omega, by omega, hd⟩, (if_pos (by omega)).trans (if_neg (by rw [hd]; decide))⟩
    have := disk_Size gd D b k w1 h1 hok
    rw [s1.1, s1.2] at this
    exact this)
  have TR := Lib.hid (fun (k : Nat) (hk : k < 2) w1 (h1 : DP w1 b gd D) => by
    have e : D.seen k = D.lasts k := by unfold Dk.seen; rw [hw]; rfl
    have s2 := readS_all2 hok (f := k) hk hd
    rw [e] at s2
    have := disk_Read gd D b k 0 (D.lasts k).length w1 h1 hok
    rw [s2.1, s2.2] at this
    exact this)
  have TW := Lib.hid (fun (k : Nat) (hk : k < 2) g b1 w1 (h1 : DP w1 b1 g (movedD D k)) => by
    obtain ⟨f1, f2⟩ := moved_fit D k (by omega)
    have hz : (bsOf (D.lasts k)).size ≤ 9223372036854775807 := by rw [bsOf_size]; have := hok.lasts k; omega
    have := disk_Write g (movedD D k) b1 k 0 (bsOf (D.lasts k)) w1 h1 f1.ok (by have := f1.count; omega) (by have := f1.waits; omega) hz
    rw [(moved_step D hok k hk).1] at this
    exact this)
  have TY := Lib.hid (fun (k : Nat) (hk : k < 2) g b1 w1 (h1 : DP w1 b1 g ((movedD D k).write (k : Nat) 0 (bsOf (D.lasts k)))) => by
    obtain ⟨f1, f2⟩ := moved_fit D k (by omega)
    have f3 : Fit ((movedD D k).write (k : Nat) 0 (bsOf (D.lasts k))) 1 := (f1.less (show 2 ≤ 20 - 2 * k by omega)).write _ _ _
    have := disk_Sync g _ b1 k w1 h1 f3.ok (by have := f3.count; omega) (by have := f3.waits; omega)
    rw [(moved_step D hok k hk).2] at this
    exact this)
  clear h hok hd hw ME
  go_enter Try.func24, Try.ntmps24
  go_wp2_with (go_at_call 7; refine (disk_New _).mono ?_; rintro e w1 ⟨g, b1, rfl, hp, ht⟩; have HP := Lib.hid hp; have HT := Lib.hid ht; clear hp ht)
  go_loopw [4] (fun v4 wr => ∃ (k : Nat) (b2 : List (Option Nat)), k ≤ 2 ∧ v4 = .int .i64 k ∧ DP wr b2 g (movedD D k) ∧ Turn [] b2 w wr) (fun v4 _ => 2 - (intOf v4).toNat)
  case atStart => exact ⟨0, b1, by omega, rfl, HP.out, HT.out⟩
  case round =>
    obtain ⟨k, b2, hk, rfl, hp2, ht2⟩ := hrel
    have H2 := Lib.hid hp2
    have T2 := Lib.hid ht2
    have HS := Lib.hid (HD.out.below ht2.belowN)
    clear hp2 ht2 HP HT
    by_cases hk2 : k < 2
    · have S1 := Lib.hid (TS.out k hk2 _ HS.out)
      have R1 := Lib.hid (TR.out k hk2 _ HS.out)
      have W1 := Lib.hid (TW.out k hk2 g b2 _ H2.out)
      have Y1 := Lib.hid (TY.out k hk2 g)
      go_wp2_with (first
        | (go_at_call 55; (with_reducible refine S1.out.mono ?_); rintro e w3 ⟨rfl, rfl⟩)
        | (go_at_call 49; (with_reducible refine R1.out.mono ?_); rintro e w3 ⟨rfl, rfl⟩)
        | (go_at_call 51; (with_reducible refine W1.out.mono ?_); rintro e w3 ⟨rfl, b3, hp3, ht3⟩; have H3 := Lib.hid hp3; have T3 := Lib.hid (T2.out.trans ht3); clear hp3 ht3)
        | (go_at_call 57; (with_reducible refine (Y1.out _ _ H3.out).mono ?_); rintro e w4 ⟨rfl, b4, hp4, ht4⟩; have H4 := Lib.hid hp4; have T4 := Lib.hid (T3.out.trans ht4); clear hp4 ht4))
      go_roundw
      case rel => exact ⟨k + 1, b4, by omega, by simp, H4.out, T4.out⟩
      case measure => simp [intOf]; omega
    · have hk3 : k = 2 := by omega
      subst hk3
      go_wp2_with fail
      go_ret
      exact ⟨g, b2, rfl, H2.out, T2.out⟩

end Go.Proofs.Ytjihboddejaelaa

/-
  Maps from int to string; with of package relstorekeep.
-/
namespace Go.Proofs.Ytjihboddejaelaa
set_option linter.unusedVariables false
set_option linter.unusedSimpArgs false
open Go.RowKit
open Go.BigFrame
open Go.Maps
set_option linter.unusedVariables false
set_option linter.unusedSimpArgs false

theorem zeroStr (w : World) : (zeroValue 9).run Try.prog w = .ok (.string ⟨#[]⟩) w := by kernel_rfl
/-- D holds what f says -/
def Tells (D : DataW Unit) (f : Int → Option ByteArray) : Prop := ∀ x : Int, (f x = none → Maps.has D (.int .i64 x) = false) ∧ ∀ t, f x = some t → ∀ z, D.atKey (.int .i64 x) z = .lit (.string t.data.toList)
/-- block b is a map of at most n entries; f: what it holds -/
def MS (w : World) (b n : Nat) (f : Int → Option ByteArray) : Prop := ∃ D : DataW Unit, w.ownsMap Try.prog 3 (plainElem Try.prog 9) b n D ∧ Tells D f
section
variable {w w' : World} {b n : Nat} {f : Int → Option ByteArray}
theorem MS.lt (h : MS w b n f) : b < w.heap.size := by
  obtain ⟨D, h1, h2⟩ := h
  exact h1.lt
theorem MS.block (h : MS w b n f) (hb : w'.heap[b]? = w.heap[b]?) : MS w' b n f := by
  obtain ⟨D, ⟨es, cl, h1, h2⟩, h3⟩ := h
  exact ⟨D, ⟨es, cl, hb.trans h1, h2⟩, h3⟩
theorem MS.below (h : MS w b n f) (hb : Below w.heap.size w w') : MS w' b n f := h.block (hb.block b h.lt)
theorem MS.mono (h : MS w b n f) {m : Nat} (hm : n ≤ m) : MS w b m f := by
  obtain ⟨D, h1, h2⟩ := h
  exact ⟨D, h1.mono hm, h2⟩
theorem MS.turn {c c' : List (Option Nat)} (h : MS w b n f) (ht : Turn c c' w w') (hg : some b ∉ c) : MS w' b n f := h.block (ht.block b h.lt hg)
theorem MS.made (w : World) : MS (w.alloc (.map #[] 0)) w.heap.size 0 (fun _ => none) := ⟨_, World.ownsMap_made _ _ _ _, fun x => ⟨fun _ => rfl, fun t h => by cases h⟩⟩
end
theorem Tells.put {D : DataW Unit} {f : Int → Option ByteArray} (hm : Maps.IsMap D) (h : Tells D f) (k : Int) (t : ByteArray) : Tells (D.put (.int .i64 k) (.lit (.string t.data.toList))) (fun y => if y = k then some t else f y) := fun x => by
  dsimp only
  by_cases hx : x = k
  · subst hx
    rw [if_pos rfl]
    exact ⟨fun h => (by cases h), fun t' h z => by cases h; exact atKey_put_same (k := .int .i64 x) hm trivial _ _⟩
  · have hne : (Lit.int .i64 x) ≠ .int .i64 k := fun e => by cases e; exact hx rfl
    rw [if_neg hx]
    refine ⟨fun h1 => ?_, fun t' h1 z => ?_⟩
    · rw [has_put_other hne]; exact (h x).1 h1
    · rw [atKey_put_other hne]; exact (h x).2 t' h1 z
theorem MS.put {w : World} {b n : Nat} {f : Int → Option ByteArray} (h : MS w b n f) (hn : n ≤ 1000000) (k : Int) (s : ByteArray) (hk : (Lit.int .i64 k).wf = true) (hs : s.size ≤ maxLen) :
    ∃ w', (Instr.mapUpdate 42 (.map (some b)) (.int .i64 k) (.string s)).run Try.prog w = .ok () w' ∧ MS w' b (n + 1) (fun y => if y = k then some s else f y) ∧ w.grownBy w' (some b) := by
  obtain ⟨D, h1, h2⟩ := h
  obtain ⟨w', hr, h3, h4⟩ := h1.update lawInt Try.underlying42 (by unfold maxLen; omega) (keyOf_int_mk Try.underlying3 hk) (plainElem_string Try.underlying9 hs)
  exact ⟨w', hr, ⟨_, h3, h2.put h1.isMap k s⟩, h4⟩
theorem sameKey_int {a b : Int} (h : a ≠ b) : (Lit.int .i64 a).sameKey (.int .i64 b) = false := sameKey_ne fun e => by cases e; exact h rfl
/-- what is no longer to come of f, and s at k -/
def Half2 (D : DataW Unit) (f : Int → Option ByteArray) (left : Lit → Bool) (k : Int) (s : ByteArray) : Prop :=
  (∀ z, D.atKey (.int .i64 k) z = .lit (.string s.data.toList)) ∧ ∀ x : Int, x ≠ k → (f x = none → Maps.has D (.int .i64 x) = false) ∧ ∀ t, f x = some t → left (.int .i64 x) = false → ∀ z, D.atKey (.int .i64 x) z = .lit (.string t.data.toList)
theorem Half2.ends {D : DataW Unit} {f : Int → Option ByteArray} {left : Lit → Bool} {k : Int} {s : ByteArray} (h : Half2 D f left k s) (hl : ∀ z, left z = false) : Tells D (fun y => if y = k then some s else f y) := fun x => by
  dsimp only
  by_cases hx : x = k
  · subst hx
    rw [if_pos rfl]
    exact ⟨fun h => (by cases h), fun t' h1 z => by cases h1; exact h.1 z⟩
  · rw [if_neg hx]
    exact ⟨(h.2 x hx).1, fun t h1 => (h.2 x hx).2 t h1 (hl _)⟩
theorem Tells.some_of {D : DataW Unit} {f : Int → Option ByteArray} (h : Tells D f) {x : Int} {c : ByteArray} (hat : ∀ z, D.atKey (.int .i64 x) z = .lit (.string c.data.toList)) : f x = some c := by
  cases hf : f x with
  | none =>
    have h1 := (h x).1 hf
    rw [has_true_of_atKey hat] at h1
    cases h1
  | some t =>
    have h1 := (h x).2 t hf (.lit (.int .i64 0))
    rw [hat] at h1
    have h2 : c.data.toList = t.data.toList := by simpa using h1
    have h3 : c = t := by
      cases c; cases t
      simp at h2
      rw [h2]
    rw [h3]
theorem Half2.skip {D D0 : DataW Unit} {f : Int → Option ByteArray} {left : Lit → Bool} {k : Int} {s : ByteArray} (h : Half2 D f left k s) : Half2 D f (fun z => left z && !z.sameKey (.int .i64 k)) k s :=
  ⟨h.1, fun x hx => ⟨(h.2 x hx).1, fun t h1 h2 => (h.2 x hx).2 t h1 (by dsimp only at h2; rw [sameKey_int hx] at h2; simpa using h2)⟩⟩
theorem Half2.step {D D0 : DataW Unit} {f : Int → Option ByteArray} {left : Lit → Bool} {k : Int} {s : ByteArray} (h : Half2 D f left k s) (hm : Maps.IsMap D) (h0 : Tells D0 f) {y : Int} (hy : y ≠ k) {c : ByteArray} (hat : ∀ z, D0.atKey (.int .i64 y) z = .lit (.string c.data.toList)) :
    Half2 (D.put (.int .i64 y) (.lit (.string c.data.toList))) f (fun z => left z && !z.sameKey (.int .i64 y)) k s := by
  have hf := h0.some_of hat
  refine ⟨fun z => ?_, fun x hx => ?_⟩
  · rw [atKey_put_other (fun e => by cases e; exact hy rfl)]; exact h.1 z
  · by_cases hxy : x = y
    · subst hxy
      rw [hf]
      exact ⟨fun h1 => (by cases h1), fun t h1 _ z => by cases h1; exact atKey_put_same (k := .int .i64 x) hm trivial _ _⟩
    · have hne : (Lit.int .i64 x) ≠ .int .i64 y := fun e => by cases e; exact hxy rfl
      refine ⟨fun h1 => ?_, fun t h1 h2 z => ?_⟩
      · rw [has_put_other hne]; exact (h.2 x hx).1 h1
      · rw [atKey_put_other hne]
        exact (h.2 x hx).2 t h1 (by dsimp only at h2; rw [sameKey_int hxy] at h2; simpa using h2) z
theorem Half2.start (f : Int → Option ByteArray) (D0 : DataW Unit) (h0 : Tells D0 f) (k : Int) (s : ByteArray) : Half2 ((DataW.map []).put (.int .i64 k) (.lit (.string s.data.toList))) f (Maps.has D0) k s := by
  refine ⟨fun z => atKey_put_same (k := .int .i64 k) Maps.isMap_empty trivial _ _, fun x hx => ?_⟩
  have hne : (Lit.int .i64 x) ≠ .int .i64 k := fun e => by cases e; exact hx rfl
  refine ⟨fun h1 => by rw [has_put_other hne]; rfl, fun t h1 h2 z => ?_⟩
  have := has_true_of_atKey ((h0 x).2 t h1)
  rw [h2] at this; cases this
theorem make_mapS (w : World) : (Instr.makeMap 42 none).run Try.prog w = .ok (.map (some w.heap.size)) (w.alloc (.map #[] 0)) := rfl

def WithPost (w : World) (n : Nat) (f : Int → Option ByteArray) (e : Ending) (w' : World) : Prop := ∃ b', e = .returned (.map (some b')) ∧ MS w' b' n f ∧ w.heap.size ≤ b' ∧ Below w.heap.size w w'

set_option maxRecDepth 100000 in
set_option maxHeartbeats 1600000 in
theorem keep_with (b n : Nat) (f : Int → Option ByteArray) (k : Int) (s : ByteArray) (w : World) (hn : n ≤ 100000) (h : MS w b n f) (hk : (Lit.int .i64 k).wf = true) (hs : s.size ≤ maxLen) :
    Calls Try.prog 18 #[.map (some b), .int .i64 k, .string s] w (WithPost w (n + 1) (fun y => if y = k then some s else f y)) := by
  obtain ⟨D0, hown, hD⟩ := h
  have hmm := make_mapS
  have hbl := hown.lt
  have hsz := hown.size_le
  have HT := Lib.hid hD
  obtain ⟨w1, hrun, hput, hg⟩ := (World.ownsMap_made (H := Unit) w Try.prog 3 (plainElem Try.prog 9)).update lawInt Try.underlying42 (by unfold maxLen; omega) (keyOf_int_mk Try.underlying3 hk) (plainElem_string Try.underlying9 hs)
  have hb1 : Below w.heap.size w w1 := ((Below.refl _ _).alloc (Nat.le_refl _) _).grown hg (by simp) (fun j hj => by cases hj; exact Nat.le_refl _)
  have hs1 := hg.size
  rw [World.size_alloc] at hs1
  have hown1 : w1.ownsMap Try.prog 3 (plainElem Try.prog 9) b n D0 := (hown.alloc _).kept hg (by simp; omega)
  have HS := Lib.hid hs
  have H2 := Lib.hid (Half2.start f D0 hD k s)
  have HP := Lib.hid hput
  have HB := Lib.hid hb1
  clear hD hput hb1 hs hg
  go_enter Try.func18, Try.ntmps18
  go_wp2_with (first
    | (at_range; refine wpList_range_own _ rfl _ 42 rfl 3 9 lawInt Try.underlying42 _ b n _ rfl hown1 ?_; intro w0 hrg0 hg0 hs0)
    | go_in)
  go_frame
  go_loopw [16] (fun _ wr => ∃ (left : Lit → Bool) (cnt : Nat) (Dout : DataW Unit), wr.ranges Try.prog 3 (plainElem Try.prog 9) b w1.heap.size n D0 left cnt ∧ cnt ≤ Maps.size D0 ∧
      wr.ownsMap Try.prog 3 (plainElem Try.prog 9) w.heap.size (1 + Maps.size D0 - cnt) Dout ∧ Half2 Dout f left k s ∧ Below w.heap.size w wr)
    (fun _ wr => wr.rangeLeft b w1.heap.size)
  case atStart =>
    exact ⟨_, _, _, hrg0, Nat.le_refl _, (HP.out.kept hg0 (by simp)).mono (by omega), H2.out, HB.out.grown hg0 (by omega) (fun j hj => by cases hj)⟩
  case round =>
    obtain ⟨left, cnt, Dout, hrg, hcs, hout, hA, hnx⟩ := hrel
    have HAA := Lib.hid hA
    clear hrg0 hg0 hs0 hA H2 HP HB hrun hown1
    go_wp2_with (first
      | (at_next; refine wpList_next_ranges_is _ rfl _ rfl 3 9 .i64 lawInt Try.underlying3 Try.underlying9 b w1.heap.size n _ _ _ rfl hrg ?_ ?_)
      | go_in)
    · intro hc0 hl0
      go_wp2
      go_ret
      subst hc0
      exact ⟨_, rfl, ⟨_, hout.mono (by omega), HAA.out.ends hl0⟩, Nat.le_refl _, hnx⟩
    · intro x c w2 cnt2 hwx hwc hlx hat hrg2 hlt hg2 hs2 hen
      have HAT := Lib.hid hat
      have HLX := Lib.hid hlx
      have hout2 := hout.kept hg2 (by simp; omega)
      clear hat hlx
      by_cases hxk : x = k
      · subst hxk
        go_wp2_with go_in
        go_roundw
        case rel => exact ⟨_, cnt2, Dout, hrg2, by omega, hout2.mono (by omega), HAA.out.skip (D0 := D0), hnx.grown hg2 hnx.size (fun j hj => by cases hj; omega)⟩
        case measure => rw [hrg2.left_eq, hrg.left_eq]; exact hlt
      · have hne : (x == k) = false := by simpa using hxk
        go_wp2_with (first
          | (at_mapUpdate; refine wpList_mapUpdate_own _ rfl _ _ _ 42 rfl 3 9 lawInt Try.underlying42 _ w.heap.size _ _ rfl hout2 (by unfold maxLen; omega) _ _ _ rfl rfl (keyOf_int_mk Try.underlying3 hwx) _ [] (plainElem_string Try.underlying9 hwc) ?_; intro w3 hout3 hg3; go_frame)
          | go_in)
        have hrg3 := hrg2.kept hg3 (fun e => by have := Option.some.inj e; omega) (fun e => by have := Option.some.inj e; omega)
        go_roundw
        case rel =>
          exact ⟨_, cnt2, _, hrg3, by omega, hout3.mono (by omega), HAA.out.step hout.isMap HT.out hxk HAT.out,
            (hnx.grown hg2 hnx.size (fun j hj => by cases hj; omega)).grown hg3 (by have := hnx.size; omega) (fun j hj => by cases hj; omega)⟩
        case measure => rw [hrg3.left_eq, hrg.left_eq]; exact hlt

end Go.Proofs.Ytjihboddejaelaa

/-
  Read of package wal.
-/
namespace Go.Proofs.Ytjihboddejaelaa
set_option linter.unusedVariables false
set_option linter.unusedSimpArgs false
open Go.RowKit
open Go.BigFrame
open Go.Maps
set_option linter.unusedVariables false
set_option linter.unusedSimpArgs false

theorem wpList_lookup_mp (w : World) {ops : Array Oper} {rest : List Oper} {o : Oper} {a : Act} {Q : Exit → Act → World → Prop}
    (hg : o.guard = none) (m x : Operand) (hop : o.op = Op.lookup 102 m x false) (b n : Nat) (f : Int → Nat)
    (hm : a.eval m = .map (some b)) (h : MP w b n f) (k : Int) (hx : a.eval x = .int .i64 k) (hk : (Lit.int .i64 k).wf = true)
    (hK : wpList Try.prog ops Q rest (a.put o.dst (.int .i64 (f k))) w) : wpList Try.prog ops Q (o :: rest) a w := by
  obtain ⟨D, h1, h2⟩ := h
  refine wpList_lookup_own_int w hg m x _ hop 3 3 .i64 lawInt Try.underlying102 Try.underlying3 (zeroInt w) b n D hm h1 _ _ hx (keyOf_int_mk Try.underlying3 hk) fun c hat hwc => ?_
  have h3 := (h2 k).symm.trans hat
  have h4 : ((f k : Nat) : Int) = c := by cases h3; rfl
  rw [← h4]
  exact hK

set_option maxRecDepth 100000 in
set_option maxHeartbeats 3200000 in
theorem wal_Read (b : List (Option Nat)) (gd g m1 m2 : Nat) (R : Rw) (n : Int) (w : World) (h : LR w b gd g m1 m2 R) (hok : R.D.ok) (hf : R.f1 n ≤ 1000000) :
    Calls Try.prog 28 #[.pointer (some ⟨g, 0, none⟩), .int .i64 n] w fun e w' => e = .returned (.tuple #[.string (R.readS n), .int .i64 (R.readE n)]) ∧ w = w' := by
  have HL := Lib.hid h
  have x0 := h.cell0
  have x3 : w.cell? ⟨g, 3, none⟩ = some (.map (some m1)) := h.has.cell 3
  have HM := Lib.hid h.map1
  have OK := Lib.hid hok
  clear h hok
  by_cases hA : 0 ≤ n ∧ n ≤ 2147483647
  · have WN := Lib.hid (wfI (x := n) (by omega) (by omega))
    have d1 : decide (n < 0) = false := by simp; omega
    have d2 : decide ((2147483648 : Int) ≤ n) = false := by simp; omega
    by_cases hz : R.f1 n ≠ 0
    · have E := Lib.hid (show R.readS n = R.D.readS 1 (R.at1 n) 1024 ∧ R.readE n = R.D.readE 1 (R.at1 n) 1024 from ⟨(if_pos hA).trans (if_pos hz), (if_pos hA).trans (if_pos hz)⟩)
      rw [E.out.1, E.out.2]
      unfold Rw.at1
      obtain ⟨k, hk⟩ : ∃ k, R.f1 n = k := ⟨_, rfl⟩
      have HK := Lib.hid hk
      rw [hk] at hf hz ⊢
      clear E hk
      have TP := Lib.hid (disk_Read gd R.D b 1 (64 + ((k : Int) - 1) * 1028 + 4) 1024 w HL.out.disk OK.out)
      obtain ⟨S, hS⟩ : ∃ S, R.D.readS 1 (64 + ((k : Int) - 1) * 1028 + 4) 1024 = S := ⟨_, rfl⟩
      obtain ⟨E, hE⟩ : ∃ S, R.D.readE 1 (64 + ((k : Int) - 1) * 1028 + 4) 1024 = S := ⟨_, rfl⟩
      rw [hS, hE] at TP ⊢
      have k1 : (0 : Int) < (k : Int) := by omega
      clear hS hE hA hz
      go_enter Try.func28, Try.ntmps28
      go_wp2_with (first
        | (at_lookup; refine wpList_lookup_mp _ rfl _ _ rfl m1 R.nf R.f1 rfl HM.out n rfl WN.out ?_; rw [HK.out])
        | (go_at_call 49; refine (TP.out).mono ?_; rintro e w1 ⟨rfl, rfl⟩))
      go_ret2
      exact ⟨rfl, rfl⟩
    · have hz0 : R.f1 n = 0 := Classical.byContradiction hz
      have HK := Lib.hid hz0
      have TS := Lib.hid (disk_Size gd R.D b 0 w HL.out.disk OK.out)
      obtain ⟨N, hN, hNb⟩ : ∃ N : Nat, R.D.sizeN 0 = N ∧ N ≤ 67108864 := by
        unfold Dk.sizeN; split
        · exact ⟨_, rfl, OK.out.seen 0⟩
        · exact ⟨0, rfl, Nat.zero_le _⟩
      have wr2 : wrap64 ((N : Int) / 1024) = (N : Int) / 1024 := IntWalk.wrap64_in _ (by omega)
      have TP := Lib.hid (disk_Read gd R.D b 0 (n * 1024) 1024 w HL.out.disk OK.out)
      have q1 : R.readS n = if R.D.sizeE 0 ≠ 0 then ⟨#[]⟩ else if R.D.sizeN 0 / 1024 ≤ n then ⟨#[]⟩ else R.D.readS 0 (n * 1024) 1024 := (if_pos hA).trans (if_neg hz)
      have q2 : R.readE n = if R.D.sizeE 0 ≠ 0 then R.D.sizeE 0 else if R.D.sizeN 0 / 1024 ≤ n then 7 else R.D.readE 0 (n * 1024) 1024 := (if_pos hA).trans (if_neg hz)
      obtain ⟨S, hS⟩ : ∃ S, R.D.readS 0 (n * 1024) 1024 = S := ⟨_, rfl⟩
      obtain ⟨E, hE⟩ : ∃ S, R.D.readE 0 (n * 1024) 1024 = S := ⟨_, rfl⟩
      obtain ⟨F, hF⟩ : ∃ S, R.D.sizeE 0 = S := ⟨_, rfl⟩
      rw [hS, hE] at TP
      rw [hN, hF] at TS
      rw [hN, hF, hS] at q1
      rw [hN, hF, hE] at q2
      rw [q1, q2]
      have HA := Lib.hid hA
      clear hS hE hA hz hz0 hN hF q1 q2 hNb
      by_cases hF : F ≠ 0
      · rw [if_pos hF, if_pos hF]
        go_enter Try.func28, Try.ntmps28
        go_wp2_with (first
          | (at_lookup; refine wpList_lookup_mp _ rfl _ _ rfl m1 R.nf R.f1 rfl HM.out n rfl WN.out ?_; rw [HK.out])
          | (go_at_call 55; refine (TS.out).mono ?_; rintro e w1 ⟨rfl, rfl⟩))
        go_ret2
        exact ⟨rfl, rfl⟩
      · rw [if_neg hF, if_neg hF]
        have hF0 : F = 0 := Classical.byContradiction hF
        subst hF0
        by_cases hx : (N : Int) / 1024 ≤ n
        · rw [if_pos hx, if_pos hx]
          clear hF
          go_enter Try.func28, Try.ntmps28
          go_wp2_with (first
            | (at_lookup; refine wpList_lookup_mp _ rfl _ _ rfl m1 R.nf R.f1 rfl HM.out n rfl WN.out ?_; rw [HK.out])
            | (go_at_call 55; refine (TS.out).mono ?_; rintro e w1 ⟨rfl, rfl⟩))
          go_ret2
          exact ⟨rfl, rfl⟩
        · rw [if_neg hx, if_neg hx]
          have wr1 : wrap64 (n * 1024) = n * 1024 := IntWalk.wrap64_in _ (by have := HA.out; omega)
          clear hF
          go_enter Try.func28, Try.ntmps28
          go_wp2_with (first
            | (at_lookup; refine wpList_lookup_mp _ rfl _ _ rfl m1 R.nf R.f1 rfl HM.out n rfl WN.out ?_; rw [HK.out])
            | (go_at_call 55; refine (TS.out).mono ?_; rintro e w1 ⟨rfl, rfl⟩) | (go_at_call 49; refine (TP.out).mono ?_; rintro e w1 ⟨rfl, rfl⟩))
          go_ret2
          exact ⟨rfl, rfl⟩
  · have E := Lib.hid (show R.readS n = ⟨#[]⟩ ∧ R.readE n = 1 from ⟨if_neg hA, if_neg hA⟩)
    rw [E.out.1, E.out.2]
    by_cases h1 : 0 ≤ n
    · have d1 : decide (n < 0) = false := by simp; omega
      have d2 : decide ((2147483648 : Int) ≤ n) = true := by simp; omega
      clear E hA h1
      go_enter Try.func28, Try.ntmps28
      go_wp2_with fail
      go_ret2
      exact ⟨rfl, rfl⟩
    · have d1 : decide (n < 0) = true := by simp; omega
      clear E hA h1
      go_enter Try.func28, Try.ntmps28
      go_wp2_with fail
      go_ret2
      exact ⟨rfl, rfl⟩

end Go.Proofs.Ytjihboddejaelaa
