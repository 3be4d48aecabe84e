/-
  The reference's Commit; sheet of the laws; both logs side by side.
-/
import Derived.Test.YtjihboddejaelaaLogT
import Derived.Test.YtjihboddejaelaaDiskR1
import Derived.Test.YtjihboddejaelaaLog18
import Derived.Test.YtjihboddejaelaaLogO
import Derived.Test.YtjihboddejaelaaLogX
import Derived.Test.YtjihboddejaelaaLogY
import Derived.Test.YtjihboddejaelaaDiskL3
namespace Go.Proofs.Ytjihboddejaelaa
open Go.RowKit
open Go.BigFrame
open Go.Maps
set_option linter.unusedVariables false
set_option linter.unusedSimpArgs false


set_option maxRecDepth 100000 in
set_option maxHeartbeats 6400000 in
theorem ref_Commit (b : List (Option Nat)) (rd r : Nat) (c : List (Option Nat)) (L : Lg) (n : Int) (t : ByteArray) (p : Int) (w : World) (h : LQ w b rd r c L) (hfit : Fit L.D 4) (hs : L.slot < 2) (hnum : L.number < 4) (hlen : L.fs.length ≤ 100000) (htz : t.size ≤ 9223372036854775807) :
    Calls Try.prog 32 #[.pointer (some ⟨r, 0, none⟩), .int .i64 n, .string t, .int .i64 p] w (QPost w b rd r c (L.commit n t p) (.int .i64 (L.commitE n t p))) := by
  have HL := Lib.hid h
  have IN := Lib.hid (fun w1 => ref_inB p 1 65536 w1)
  have AP := Lib.hid (ref_Append b rd r c L n t w h (hfit.less (by omega)) hlen htz)
  by_cases hp : 1 ≤ p ∧ p ≤ 65536
  · rw [inB_yes hp.1 hp.2] at IN
    obtain ⟨a1, a2, a3, a4, a5⟩ := append_rest L n t
    have f1 : Fit (L.append n t).D 3 := append_fit hfit n t
    have TS := Lib.hid (fun b1 w1 (h1 : RP w1 b1 rd (L.append n t).D) => refd_Sync rd (L.append n t).D b1 1 w1 h1 f1.ok (by have := f1.count; omega) (by have := f1.waits; omega))
    rw [show (L.append n t).D.syncE 1 = (L.append n t).D.turnE from syncE_fits (f := 1) (by omega)] at TS
    have TT := Lib.hid (fun b1 c1 w1 (h1 : LQ w1 b1 rd r c1 ({ L.append n t with D := (L.append n t).D.sync 1 } : Lg)) => ref_tell b1 rd r c1 ({ L.append n t with D := (L.append n t).D.sync 1 } : Lg) (L.append n t).fs.length p.toNat w1 h1 (show Fit ((L.append n t).D.sync 1) 2 from f1.sync 1) (show (L.append n t).slot < 2 by omega) (show (L.append n t).number < 4 by omega) (by omega) (by omega))
    rw [Int.toNat_of_nonneg (by omega : 0 ≤ p)] at TT
    have C0 := Lib.hid (show ¬ (L.appendE n t = 0) → L.commit n t p = L.append n t ∧ L.commitE n t p = L.appendE n t from fun h0 => ⟨(if_pos hp).trans (if_neg h0), (if_pos hp).trans (if_neg h0)⟩)
    have C1 := Lib.hid (show L.appendE n t = 0 → (L.append n t).D.stops → L.commit n t p = { L.append n t with D := (L.append n t).D.sync 1 } ∧ L.commitE n t p = 2 ∧ (L.append n t).D.turnE = 2 from fun h0 h1 => ⟨(if_pos hp).trans ((if_pos h0).trans (if_pos h1)), (if_pos hp).trans ((if_pos h0).trans (if_pos h1)), if_pos h1⟩)
    have C2 := Lib.hid (show L.appendE n t = 0 → ¬ (L.append n t).D.stops → L.commit n t p = ({ L.append n t with D := (L.append n t).D.sync 1 } : Lg).tell (L.append n t).fs.length p.toNat ∧ L.commitE n t p = ({ L.append n t with D := (L.append n t).D.sync 1 } : Lg).tellE (L.append n t).fs.length p.toNat ∧ (L.append n t).D.turnE = 0 from fun h0 h1 => ⟨(if_pos hp).trans ((if_pos h0).trans (if_neg h1)), (if_pos hp).trans ((if_pos h0).trans (if_neg h1)), if_neg h1⟩)
    obtain ⟨M, hM⟩ : ∃ M, L.append n t = M := ⟨_, rfl⟩
    obtain ⟨E, hE⟩ : ∃ E, L.appendE n t = E := ⟨_, rfl⟩
    rw [hM] at AP TS TT C0 C1 C2
    rw [hE] at AP C0 C1 C2
    clear h hfit hp hM hE a1 a2 a3 a4 a5 f1
    by_cases hE0 : E = 0
    · subst hE0
      by_cases hst : M.D.stops
      · have CC := Lib.hid (C1.out rfl hst)
        rw [CC.out.1, CC.out.2.1]
        rw [CC.out.2.2] at TS
        clear C0 C1 C2 hst TT
        go_enter Try.func32, Try.ntmps32
        go_wp2_with (first | (go_at_call 80; refine (IN.out _).mono ?_; rintro e w1 ⟨rfl, rfl⟩) | (go_at_call 31; (with_reducible refine AP.out.mono ?_); rintro e w2 ⟨rfl, b2, c2, hl2, ht2⟩; have HL2 := Lib.hid hl2; have HT2 := Lib.hid ht2; obtain ⟨y0, _, _, _, _, yz, _⟩ := hl2.cells; clear hl2 ht2) | (go_at_call 58; (with_reducible refine (TS.out _ _ HL2.out.disk).mono ?_); rintro e w3 ⟨rfl, b3, hd3, ht3⟩; obtain ⟨hl3, hu3⟩ := HL2.out.onDisk hd3 ht3; have HL3 := Lib.hid hl3; have HT3 := Lib.hid (HT2.out.trans hu3); clear hd3 ht3 hl3 hu3))
        go_ret
        exact ⟨rfl, b3, c2, HL3.out, HT3.out⟩
      · have CC := Lib.hid (C2.out rfl hst)
        rw [CC.out.1, CC.out.2.1]
        rw [CC.out.2.2] at TS
        clear C0 C1 C2 hst CC
        obtain ⟨F, hF⟩ : ∃ F, ({ M with D := M.D.sync 1 } : Lg).tellE M.fs.length p.toNat = F := ⟨_, rfl⟩
        rw [hF] at TT ⊢
        clear hF
        go_enter Try.func32, Try.ntmps32
        go_wp2_with (first | (go_at_call 80; refine (IN.out _).mono ?_; rintro e w1 ⟨rfl, rfl⟩) | (go_at_call 31; (with_reducible refine AP.out.mono ?_); rintro e w2 ⟨rfl, b2, c2, hl2, ht2⟩; have HL2 := Lib.hid hl2; have HT2 := Lib.hid ht2; obtain ⟨y0, _, _, _, _, yz, _⟩ := hl2.cells; clear hl2 ht2) | (go_at_call 58; (with_reducible refine (TS.out _ _ HL2.out.disk).mono ?_); rintro e w3 ⟨rfl, b3, hd3, ht3⟩; obtain ⟨hl3, hu3⟩ := HL2.out.onDisk hd3 ht3; have HL3 := Lib.hid hl3; have HT3 := Lib.hid (HT2.out.trans hu3); obtain ⟨A3, k3, v1, _, _⟩ := hl3.frames; dsimp only at v1; clear hd3 ht3 hl3 hu3) | (go_at_call 82; (with_reducible refine (TT.out _ _ _ HL3.out).mono ?_); rintro e w4 ⟨rfl, b4, c4, hl4, ht4⟩; have HL4 := Lib.hid hl4; have HT4 := Lib.hid (HT3.out.trans ht4); clear hl4 ht4))
        go_ret
        exact ⟨rfl, b4, c4, HL4.out, HT4.out⟩
    · have CC := Lib.hid (C0.out hE0)
      rw [CC.out.1, CC.out.2]
      clear C0 C1 C2 TS TT
      go_enter Try.func32, Try.ntmps32
      go_wp2_with (first | (go_at_call 80; refine (IN.out _).mono ?_; rintro e w1 ⟨rfl, rfl⟩) | (go_at_call 31; (with_reducible refine AP.out.mono ?_); rintro e w2 ⟨rfl, b2, c2, hl2, ht2⟩; have HL2 := Lib.hid hl2; have HT2 := Lib.hid ht2; clear hl2 ht2))
      go_ret
      exact ⟨rfl, b2, c2, HL2.out, HT2.out⟩
  · rw [inB_no hp] at IN
    have EA : L.commit n t p = L ∧ L.commitE n t p = 1 := ⟨if_neg hp, if_neg hp⟩
    rw [EA.1, EA.2]
    clear EA hp AP h hfit
    go_enter Try.func32, Try.ntmps32
    go_wp2_with (go_at_call 80; refine (IN.out _).mono ?_; rintro e w1 ⟨rfl, rfl⟩)
    go_ret
    exact QPost.refl HL.out


def sheetAt (n : Int) (i : Nat) : UInt8 := UInt8.ofNat ((n * ((i : Int) / 100 + 1)) % 256).toNat
/-- the first k bytes are laid -/
def sheetL (n : Int) (k : Nat) : List UInt8 := (List.range 1024).map fun i => if i < k then sheetAt n i else 0
def sheetB (n : Int) : ByteArray := bsOf (sheetL n 1024)
theorem sheetL_len (n : Int) (k : Nat) : (sheetL n k).length = 1024 := by simp [sheetL]
theorem sheetB_size (n : Int) : (sheetB n).size = 1024 := by unfold sheetB; rw [bsOf_size, sheetL_len]
theorem sheetL_get (n : Int) (k i : Nat) (hi : i < 1024) : (sheetL n k)[i]? = some (if i < k then sheetAt n i else 0) := by
  unfold sheetL
  rw [List.getElem?_map, List.getElem?_range hi]; rfl
theorem sheetL_succ (n : Int) (k : Nat) (hk : k < 1024) : sheetL n (k + 1) = (sheetL n k).set k (sheetAt n k) := by
  refine List.ext_getElem? fun i => ?_
  by_cases hi : i < 1024
  · rw [sheetL_get n _ i hi, List.getElem?_set]
    by_cases hki : k = i
    · subst hki
      rw [if_pos (Nat.lt_succ_self k), if_pos rfl, if_pos (show k < (sheetL n k).length by rw [sheetL_len]; exact hk)]
    · rw [if_neg hki, sheetL_get n _ i hi]
      by_cases h : i < k
      · rw [if_pos h, if_pos (by omega)]
      · rw [if_neg h, if_neg (by omega)]
  · rw [List.getElem?_eq_none (by rw [sheetL_len]; omega), List.getElem?_eq_none (by rw [List.length_set, sheetL_len]; omega)]
theorem sheet_val (n : Int) (i : Nat) : wrap64 (n * ((i : Int) / 100 + 1)) % 256 = ((sheetAt n i).toNat : Int) := by
  unfold sheetAt
  generalize n * ((i : Int) / 100 + 1) = x
  rw [UInt8.toNat_ofNat']
  unfold wrap64
  omega
theorem madeZeros (n : Nat) : madeCells #[Value.int .u8 0] n = (u8s (List.replicate n 0)).toArray := by
  apply Array.toList_inj.1
  rw [show (u8s (List.replicate n 0)).toArray.toList = List.replicate n (Value.int .u8 0) by simp [u8s, u8v]]
  refine List.eq_replicate_iff.2 ⟨by simp [size_madeCells], fun b hb => ?_⟩
  simp only [madeCells, Array.toList_map, List.mem_map] at hb
  obtain ⟨a, _, rfl⟩ := hb
  show (#[Value.int .u8 0] : Array Value)[a % 1]! = _
  rw [Nat.mod_one]; rfl
theorem sheetL_zero (n : Int) : sheetL n 0 = List.replicate 1024 0 := by
  refine List.eq_replicate_iff.2 ⟨sheetL_len n 0, fun b hb => ?_⟩
  unfold sheetL at hb
  obtain ⟨i, _, rfl⟩ := List.mem_map.1 hb
  rw [if_neg (by omega)]
theorem u8s_set (l : List UInt8) (k : Nat) (b : UInt8) : (u8s l).toArray.setIfInBounds k (.int .u8 b.toNat) = (u8s (l.set k b)).toArray := by
  apply Array.toList_inj.1
  simp [u8s, u8v, List.map_set]

set_option maxRecDepth 100000 in
set_option maxHeartbeats 3200000 in
theorem law_sheet (n : Int) (w : World) : Calls Try.prog 30 #[.int .i64 n] w fun e w' => e = .returned (.string (sheetB n)) ∧ Below w.heap.size w w' := by
  have hmk := make_bytesN 1024 (by omega) w
  rw [madeZeros, ← sheetL_zero n, show ((1024 : Nat) : Int) = 1024 from rfl] at hmk
  have H0 := Lib.hid (Has.new w 5 (u8s (sheetL n 0)).toArray)
  have HB := Lib.hid ((Below.refl w.heap.size w).alloc (Nat.le_refl _) (.cells (u8s (sheetL n 0)).toArray 5))
  go_enter Try.func30, Try.ntmps30
  go_wp2_with fail
  go_loopw [8] (fun v8 wr => ∃ k : Nat, k ≤ 1024 ∧ v8 = .int .i64 k ∧ Has wr w.heap.size 5 (u8s (sheetL n k)).toArray ∧ Below w.heap.size w wr) (fun v8 _ => 1024 - (intOf v8).toNat)
  case atStart => exact ⟨0, by omega, rfl, H0.out, HB.out⟩
  case round =>
    obtain ⟨k, hk, rfl, hh, hb⟩ := hrel
    have HH := Lib.hid hh
    have HBB := Lib.hid hb
    clear hh hb H0 HB hmk
    have gz := HH.out.lt
    by_cases hk2 : k < 1024
    · have c0 : wr.cell? ⟨w.heap.size, k, none⟩ = some (.int .u8 (((sheetL n k)[k]?.getD 0).toNat : Nat)) := by
        have := HH.out.cell k
        rw [this, sheetL_get n k k hk2]
        simp [u8s, u8v, sheetL_get n k k hk2]
      have cf := HH.out.frozen
      have HS := Lib.hid (HH.out.set k (.int .u8 (sheetAt n k).toNat))
      rw [u8s_set, ← sheetL_succ n k hk2] at HS
      have SV := Lib.hid (sheet_val n k)
      go_wp2_with fail
      rw [SV.out]
      go_roundw
      case rel => exact ⟨k + 1, by omega, by simp, HS.out, HBB.out.setCell (Nat.le_refl _) _⟩
      case measure => simp [intOf]; omega
    · have hk3 : k = 1024 := by omega
      subst hk3
      have hcv := conv_BS (c := 1024) (BS.of_has HH.out)
      rw [sheetL_len] at hcv
      have SB := Lib.hid (show bsOf (sheetL n 1024) = sheetB n from rfl)
      rw [SB.out] at hcv
      rw [show ((1024 : Nat) : Int) = 1024 from rfl]
      go_wp2_with fail
      go_ret
      exact ⟨rfl, HBB.out⟩


section
variable {D : Dk} {k : Nat}
theorem tell_fit {L : Lg} (h : Fit L.D (k + 2)) (f p : Nat) : Fit (L.tell f p).D k := by
  have h1 : Fit (L.tellD f p) (k + 1) := h.write _ _ _
  unfold Lg.tell
  split
  · exact h1.less (by omega)
  · have h2 : Fit ((L.tellD f p).sync 1) k := h1.sync 1
    split
    · exact h2
    · exact h2
theorem commit_fit {L : Lg} (h : Fit L.D (k + 4)) (n : Int) (t : ByteArray) (p : Int) : Fit (L.commit n t p).D k := by
  have h1 : Fit (L.append n t).D (k + 3) := append_fit h n t
  have h2 : Fit ((L.append n t).D.sync 1) (k + 2) := h1.sync _
  unfold Lg.commit
  split
  · split
    · split
      · exact h2.less (by omega)
      · exact tell_fit (L := { L.append n t with D := (L.append n t).D.sync 1 }) h2 _ _
    · exact h1.less (by omega)
  · exact h.less (by omega)
theorem put1_fitK {L : Lg} {X : Dk} {m K : Nat} (h : Fit X (K + (70000 - min m 65537))) : Fit (L.put1 X m) (K + (70000 - min (m + 1) 65537)) := by
  unfold Lg.put1
  split
  · by_cases hm : m < 65537
    · have h2 : Fit X ((K + (70000 - min (m + 1) 65537)) + 1) := h.less (by omega)
      exact h2.write _ _ _
    · have hF : ∀ s : ByteArray, ¬ fitsF 0 (1024 * m : Nat) s.size := fun s => by unfold fitsF; omega
      unfold Dk.write; rw [if_neg (hF _)]; exact h.less (by omega)
  · exact h.less (by omega)
theorem puts_fit {L : Lg} {K : Nat} : ∀ (j m : Nat) (X : Dk), Fit X (K + (70000 - min m 65537)) → Fit (L.puts j m X).1 (K + 4)
  | 0, m, X, h => h.less (by omega)
  | j + 1, m, X, h => by
    rw [Lg.puts]
    split
    · exact puts_fit j (m + 1) _ (put1_fitK h)
    · exact (put1_fitK (L := L) h).less (by omega)
theorem check3_fit {L : Lg} {X : Dk} (h : Fit X (k + 4)) : Fit (L.check3 X).1.D k := by
  have h1 : Fit (X.cutD 0 (1024 * L.pages : Nat)) (k + 3) := h.cut _ _
  have h2 : Fit ((X.cutD 0 (1024 * L.pages : Nat)).sync 0) (k + 2) := h1.sync _
  have h3 : Fit (({ L with D := (X.cutD 0 (1024 * L.pages : Nat)).sync 0 } : Lg).tell 0 L.pages).D k := tell_fit (L := { L with D := (X.cutD 0 (1024 * L.pages : Nat)).sync 0 }) h2 _ _
  unfold Lg.check3
  split
  · exact h1.less (by omega)
  · split
    · exact h2.less (by omega)
    · dsimp only
      split
      · exact h3
      · exact h3
theorem checkpoint_fit {L : Lg} (h : Fit L.D (k + 70000)) : Fit L.checkpoint.1.D k := by
  have h1 : Fit (L.puts L.pages 0 L.D).1 (k + 4) := puts_fit _ _ _ (h.less (by omega))
  unfold Lg.checkpoint
  split
  · exact h.less (by omega)
  · split
    · exact h.less (by omega)
    · split
      · exact h1.less (by omega)
      · exact check3_fit h1
theorem opened_fit (h : Fit D (k + 4)) : Fit (Lg.opened D).D k := by
  unfold Lg.opened
  split
  · have h1 : Fit (D.cutD 1 0) (k + 3) := h.cut _ _
    have h2 : Fit ((D.cutD 1 0).sync 1) (k + 2) := h1.sync _
    have h3 : Fit (((D.cutD 1 0).sync 1).write 1 0 (bsOf (markL ++ slotL 1 0 ((D.seen 0).length / 1024)))) (k + 1) := h2.write _ _ _
    have h4 : Fit (anewD D) k := h3.sync 1
    generalize anewD D = X at h4 ⊢
    exact h4
  · exact h.less (by omega)
theorem opened_calm (h : D.calm) : (Lg.opened D).D.calm := by
  unfold Lg.opened
  split
  · have h4 : (anewD D).calm := (((h.cut 1 0).sync 1).write 1 0 (bsOf (markL ++ slotL 1 0 ((D.seen 0).length / 1024)))).sync 1
    generalize anewD D = X at h4 ⊢
    exact h4
  · exact h
theorem crash_calm (D : Dk) (ks : List Int) : (D.crash ks).calm := ⟨rfl, rfl⟩
theorem crash_fit (h : Fit D k) (ks : List Int) : Fit (D.crash ks) k := ⟨Dk.crash_ok h.ok ks, h.count, by show 0 + k ≤ _; have := h.waits; omega⟩
theorem fail_fit (h : Fit D k) {n : Int} (hn : n ≤ 9223372036854775807) : Fit (D.fail n) k := ⟨Dk.fail_ok h.ok hn, h.count, h.waits⟩
theorem new_fit : Fit Dk.new 30000000 := ⟨Dk.new_ok, by decide, by decide⟩
end
/-- the program's log L and the reference's log M, apart from one another, in memory that was made since w0; the law's step at ab -/
structure Tri (w0 w : World) (b : List (Option Nat)) (gd g m1 m2 : Nat) (c : List (Option Nat)) (rd r : Nat) (d : List (Option Nat)) (ab : Nat) (a : ActV) (L M : Lg) : Prop where
  p : LR w b gd g m1 m2 L.rw
  q : LQ w c rd r d M
  disj : Disj (b ++ lb g m1 m2) (c ++ d)
  low1 : ∀ k, some k ∈ b ++ lb g m1 m2 → w0.heap.size ≤ k
  low2 : ∀ k, some k ∈ c ++ d → w0.heap.size ≤ k
  bel : Below w0.heap.size w0 w
  act : Has w ab 31 a.arr
  off1 : some ab ∉ b ++ lb g m1 m2
  off2 : some ab ∉ c ++ d
section
variable {w0 w w' : World} {b b' c c' d d' : List (Option Nat)} {gd g g' m1 m2 m1' m2' rd r r' ab : Nat} {a : ActV} {L M L' M' : Lg}
theorem disj_turn {x x' y : List (Option Nat)} (hd : Disj x y) (ht : Turn x x' w w') (hy : ∀ k, some k ∈ y → k < w.heap.size) : Disj x' y := fun k hk h2 => by
  rcases ht.new k hk with h3 | h3
  · exact hd k h3 h2
  · have := hy k h2; omega
theorem Tri.step (h : Tri w0 w b gd g m1 m2 c rd r d ab a L M) (hb : Below w.heap.size w w') : Tri w0 w' b gd g m1 m2 c rd r d ab a L M :=
  ⟨h.p.below hb, h.q.below hb, h.disj, h.low1, h.low2, bel_step h.bel hb h.bel.size, h.act.belowS hb, h.off1, h.off2⟩
theorem Tri.lr (h : Tri w0 w b gd g m1 m2 c rd r d ab a L M) (hp : LR w' b' gd g' m1' m2' L'.rw) (ht : Turn (b ++ lb g m1 m2) (b' ++ lb g' m1' m2') w w') : Tri w0 w' b' gd g' m1' m2' c rd r d ab a L' M :=
  ⟨hp, h.q.far ht h.disj, disj_turn h.disj ht (fun k hk => h.q.lt hk), ht.low h.low1 h.bel.size, h.low2, ht.bel h.bel h.low1 h.bel.size, h.act.turn ht h.off1, ht.not h.act.lt h.off1, h.off2⟩
theorem Tri.lq (h : Tri w0 w b gd g m1 m2 c rd r d ab a L M) (hq : LQ w' c' rd r' d' M') (ht : Turn (c ++ d) (c' ++ d') w w') : Tri w0 w' b gd g m1 m2 c' rd r' d' ab a L M' :=
  ⟨h.p.far ht h.disj.symm, hq, (disj_turn h.disj.symm ht (fun k hk => h.p.lt hk)).symm, h.low1, ht.low h.low2 h.bel.size, ht.bel h.bel h.low2 h.bel.size, h.act.turn ht h.off2, h.off1, ht.not h.act.lt h.off2⟩
theorem Tri.two (h : Tri w0 w b gd g m1 m2 c rd r d ab a L M) : Two w0 w gd rd b c L.D M.D :=
  ⟨h.p.disk, h.q.disk, fun k hk h2 => h.disj k (List.mem_append_left _ hk) (List.mem_append_left _ h2), fun k hk => h.low1 k (List.mem_append_left _ hk), fun k hk => h.low2 k (List.mem_append_left _ hk), h.bel⟩
/-- the program's disk has turned; the log is left behind -/
theorem Turn.widen {x x' : List (Option Nat)} (y : List (Option Nat)) (h : Turn x x' w w') : Turn (x ++ y) x' w w' := h.wide (fun k hk => List.mem_append_left _ hk) (fun k hk => .inl hk)
end
def PPost (w0 : World) (gd g : Nat) (c : List (Option Nat)) (rd r : Nat) (d : List (Option Nat)) (ab : Nat) (a : ActV) (L' M : Lg) (v : Value) (e : Ending) (w' : World) : Prop :=
  e = .returned v ∧ ∃ b' m1' m2', Tri w0 w' b' gd g m1' m2' c rd r d ab a L' M
def QPostT (w0 : World) (b : List (Option Nat)) (gd g m1 m2 rd r ab : Nat) (a : ActV) (L M' : Lg) (v : Value) (e : Ending) (w' : World) : Prop :=
  e = .returned v ∧ ∃ c' d', Tri w0 w' b gd g m1 m2 c' rd r d' ab a L M'
section
variable {w0 w : World} {b c d : List (Option Nat)} {gd g m1 m2 rd r ab : Nat} {a : ActV} {L M : Lg}
theorem Tri.ofMaps (h : Tri w0 w b gd g m1 m2 c rd r d ab a L M) {L' : Lg} {v : Value} {e : Ending} {w' : World} (hp : MapsPost w b gd g m1 m2 L'.rw v e w') : PPost w0 gd g c rd r d ab a L' M v e w' := by
  obtain ⟨he, b', m1', m2', h1, h2⟩ := hp
  exact ⟨he, b', m1', m2', h.lr h1 h2⟩
theorem Tri.ofQ (h : Tri w0 w b gd g m1 m2 c rd r d ab a L M) {M' : Lg} {v : Value} {e : Ending} {w' : World} (hp : QPost w c rd r d M' v e w') : QPostT w0 b gd g m1 m2 rd r ab a L M' v e w' := by
  obtain ⟨he, c', d', h1, h2⟩ := hp
  exact ⟨he, c', d', h.lq h1 h2⟩
theorem tri_Append (h : Tri w0 w b gd g m1 m2 c rd r d ab a L M) (ok : L.ok) (hfit : Fit L.D 1) (n : Int) (t : ByteArray) :
    Calls Try.prog 17 #[.pointer (some ⟨g, 0, none⟩), .int .i64 n, .string t] w (PPost w0 gd g c rd r d ab a (L.append n t) M (.int .i64 (L.appendE n t))) := by
  obtain ⟨e1, e2⟩ := rw_app ok n t
  refine (wal_Append b gd g m1 m2 L.rw n t w h.p hfit (show L.fs.length ≤ _ by have := ok.len; omega)).mono fun e w' hp => ?_
  rw [← e1, ← e2] at hp
  exact h.ofMaps hp.maps
theorem tri_Commit (h : Tri w0 w b gd g m1 m2 c rd r d ab a L M) (ok : L.ok) (hfit : Fit L.D 4) (n : Int) (t : ByteArray) (p : Int) :
    Calls Try.prog 19 #[.pointer (some ⟨g, 0, none⟩), .int .i64 n, .string t, .int .i64 p] w (PPost w0 gd g c rd r d ab a (L.commit n t p) M (.int .i64 (L.commitE n t p))) := by
  obtain ⟨e1, e2⟩ := rw_commit ok n t p
  refine (wal_Commit b gd g m1 m2 L.rw n t p w h.p hfit ok.slot ok.number (show L.fs.length ≤ _ by have := ok.len; omega)).mono fun e w' hp => ?_
  rw [← e1, ← e2] at hp
  exact h.ofMaps hp
theorem tri_Back (h : Tri w0 w b gd g m1 m2 c rd r d ab a L M) (ok : L.ok) :
    Calls Try.prog 20 #[.pointer (some ⟨g, 0, none⟩)] w (PPost w0 gd g c rd r d ab a L.back M (.tuple #[])) := by
  refine (wal_Back b gd g m1 m2 L.rw w h.p (show L.kept ≤ _ by have := ok.len; have := ok.kept; omega)).mono fun e w' hp => ?_
  rw [← rw_back ok] at hp
  exact h.ofMaps hp
theorem tri_Checkpoint (h : Tri w0 w b gd g m1 m2 c rd r d ab a L M) (ok : L.ok) (hfit : Fit L.D 70000) (hd : L.D.down = false) :
    Calls Try.prog 21 #[.pointer (some ⟨g, 0, none⟩)] w (PPost w0 gd g c rd r d ab a L.checkpoint.1 M (.int .i64 L.checkpoint.2)) := by
  obtain ⟨e1, e2⟩ := rw_checkpoint ok hd
  refine (wal_Checkpoint b gd g m1 m2 L.rw w h.p hfit ok.slot ok.number (show L.pages ≤ _ by have := ok.pages; omega) (fun x => by show lastAt L.fs x ≤ _; have := lastAt_le L.fs x; have := ok.len; omega)).mono fun e w' hp => ?_
  rw [← e1, ← e2] at hp
  exact h.ofMaps hp
theorem tri_Read (h : Tri w0 w b gd g m1 m2 c rd r d ab a L M) (ok : L.ok) (hd : L.D.down = false) (n : Int) :
    Calls Try.prog 28 #[.pointer (some ⟨g, 0, none⟩), .int .i64 n] w fun e w' => e = .returned (.tuple #[.string (L.readS n), .int .i64 (L.readE n)]) ∧ w = w' := by
  obtain ⟨e1, e2⟩ := rw_read ok hd n
  rw [e1, e2]
  exact wal_Read b gd g m1 m2 L.rw n w h.p ok.disk (by show lastAt L.fs n ≤ _; have := lastAt_le L.fs n; have := ok.len; omega)
theorem triq_Append (h : Tri w0 w b gd g m1 m2 c rd r d ab a L M) (ok : M.ok) (hfit : Fit M.D 1) (n : Int) (t : ByteArray) (ht : t.size ≤ 9223372036854775807) :
    Calls Try.prog 31 #[.pointer (some ⟨r, 0, none⟩), .int .i64 n, .string t] w (QPostT w0 b gd g m1 m2 rd r ab a L (M.append n t) (.int .i64 (M.appendE n t))) :=
  (ref_Append c rd r d M n t w h.q hfit (by have := ok.len; omega) ht).mono fun e w' hp => h.ofQ hp
theorem triq_Commit (h : Tri w0 w b gd g m1 m2 c rd r d ab a L M) (ok : M.ok) (hfit : Fit M.D 4) (n : Int) (t : ByteArray) (p : Int) (ht : t.size ≤ 9223372036854775807) :
    Calls Try.prog 32 #[.pointer (some ⟨r, 0, none⟩), .int .i64 n, .string t, .int .i64 p] w (QPostT w0 b gd g m1 m2 rd r ab a L (M.commit n t p) (.int .i64 (M.commitE n t p))) :=
  (ref_Commit c rd r d M n t p w h.q hfit ok.slot ok.number (by have := ok.len; omega) ht).mono fun e w' hp => h.ofQ hp
theorem triq_Back (h : Tri w0 w b gd g m1 m2 c rd r d ab a L M) (ok : M.ok) :
    Calls Try.prog 33 #[.pointer (some ⟨r, 0, none⟩)] w (QPostT w0 b gd g m1 m2 rd r ab a L M.back (.tuple #[])) :=
  (ref_Back c rd r d M w h.q ok.kept).mono fun e w' hp => h.ofQ hp
theorem triq_Checkpoint (h : Tri w0 w b gd g m1 m2 c rd r d ab a L M) (ok : M.ok) (hfit : Fit M.D 70000) (hd : M.D.down = false) :
    Calls Try.prog 34 #[.pointer (some ⟨r, 0, none⟩)] w (QPostT w0 b gd g m1 m2 rd r ab a L M.checkpoint.1 (.int .i64 M.checkpoint.2)) :=
  (ref_Checkpoint c rd r d M w h.q hfit hd ok.slot ok.number (by have := ok.pages; omega) (by have := ok.len; omega) (fun f hf => Nat.le_of_eq (ok.frames f hf).2)).mono fun e w' hp => h.ofQ hp
theorem triq_Read (h : Tri w0 w b gd g m1 m2 c rd r d ab a L M) (ok : M.ok) (hd : M.D.down = false) (hws : M.D.waits.length ≤ 1000000000) (n : Int) :
    Calls Try.prog 29 #[.pointer (some ⟨r, 0, none⟩), .int .i64 n] w fun e w' => e = .returned (.tuple #[.string (M.readS n), .int .i64 (M.readE n)]) ∧ Below w.heap.size w w' :=
  ref_Read c rd r d M n w h.q ok.disk hws hd (by have := ok.len; omega)
end


end Go.Proofs.Ytjihboddejaelaa
