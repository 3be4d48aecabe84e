/-
  has of package relstorekeep: has a log these pages?
-/
import Derived.Test.YtjihboddejaelaaPk5
import Derived.Test.YtjihboddejaelaaPk1
import Derived.Test.YtjihboddejaelaaProg
import Derived.Test.YtjihboddejaelaaRows
import Derived.WalkSpells
import Derived.WalkLawsBesides
import Derived.BigQuiet
import Derived.Outline
import Derived.LoopTactic
import Derived.Deep.DeepCutAuto
import Derived.Deep.AppendLies
import Derived.Laws.BitsAllLaws
namespace Go.Proofs.Ytjihboddejaelaa
set_option linter.unusedVariables false
set_option linter.unusedSimpArgs false
open Go.RowKit
open Go.BigFrame
open Go.Maps
set_option linter.unusedVariables false
set_option linter.unusedSimpArgs false

theorem MS.look {w : World} {b n : Nat} {f : Int → Option ByteArray} (h : MS w b n f) (k : Int) (hk : (Lit.int .i64 k).wf = true) :
    (Instr.lookup 42 (.map (some b)) (.int .i64 k) true).run Try.prog w = .ok (.tuple #[.string ((f k).getD ⟨#[]⟩), .bool (f k).isSome]) w := by
  obtain ⟨D, h1, h2⟩ := h
  obtain ⟨v, ps, hrun, hv⟩ := h1.look_ok lawInt Try.underlying42 (zeroStr w) (zd := .lit (.string [])) (zp := []) (plainElem_string Try.underlying9 (s := ⟨#[]⟩) (by decide)) (keyOf_int_mk Try.underlying3 hk)
  obtain ⟨c, rfl, hc, _⟩ := plainElem_string_inv Try.underlying9 hv
  have hc1 : D.atKey (.int .i64 k) (.lit (.string [])) = .lit (.string c.data.toList) := congrArg Prod.fst hc
  rw [hrun]
  cases hf : f k with
  | none =>
    have hn := (h2 k).1 hf
    rw [atKey_of_not_has hn] at hc1
    have h3 : ([] : List UInt8) = c.data.toList := by simpa using hc1
    have h4 : c = ⟨#[]⟩ := by
      cases c
      simp at h3
      rw [h3]
    rw [hn, h4]; rfl
  | some t =>
    have ht := (h2 k).2 t hf
    rw [has_true_of_atKey ht]
    rw [ht] at hc1
    have h3 : t.data.toList = c.data.toList := by simpa using hc1
    have h4 : c = t := by
      cases c; cases t
      simp at h3
      rw [h3]
    rw [h4]; rfl
theorem zeros_conv (w : World) : (convert 81 9 (.slice (some ⟨w.heap.size, 0, none⟩) 1024 1024)).run Try.prog (w.alloc (.cells (u8s (List.replicate 1024 0)).toArray 5)) = .ok (.string zeroPage) (w.alloc (.cells (u8s (List.replicate 1024 0)).toArray 5)) := by
  have := conv_BS (c := 1024) (BS.of_has (l := List.replicate 1024 0) (Has.new w 5 (u8s (List.replicate 1024 0)).toArray))
  rw [List.length_replicate] at this
  exact this
theorem zeros_make (w : World) : (Instr.makeSlice 81 (.int .i64 1024) (.int .i64 1024)).run Try.prog w = .ok (.slice (some ⟨w.heap.size, 0, none⟩) 1024 1024) (w.alloc (.cells (u8s (List.replicate 1024 0)).toArray 5)) := by
  have hmk := make_bytesN 1024 (by omega) w
  rw [madeZeros, show ((1024 : Nat) : Int) = 1024 from rfl] at hmk
  exact hmk

theorem ba_neK {t s : ByteArray} (h : ¬ t = s) : (t.toList == s.toList) = false := by
  rw [Lib.toList_data, Lib.toList_data, beq_eq_false_iff_ne]
  intro e
  exact h (ByteArray.ext (Array.toList_inj.1 e))
def HasPost (w : World) (F : Prop) (e : Ending) (w' : World) : Prop := ∃ v, e = .returned (.bool v) ∧ (v = true ↔ F) ∧ Below w.heap.size w w'
theorem FitP.not_some {t : ByteArray} {e : Int} {s : ByteArray} (h : e ≠ 0 ∨ s ≠ t) : ¬ FitP (some t) e s := fun h2 => h.elim (fun h3 => h3 h2.1) (fun h3 => h3 h2.2)
theorem FitP.not_none {e : Int} {s : ByteArray} (h1 : e = 0) (h : s ≠ zeroPage) : ¬ FitP none e s := fun h2 => h (h2 h1)

set_option maxRecDepth 100000 in
set_option maxHeartbeats 3200000 in
theorem keep_has (b : List (Option Nat)) (gd g m1 m2 mb nb : Nat) (R : Rw) (f : Int → Option ByteArray) (w : World) (h : LR w b gd g m1 m2 R) (hok : R.D.ok) (hf1 : ∀ n, R.f1 n ≤ 1000000) (hm : MS w mb nb f) :
    Calls Try.prog 25 #[.pointer (some ⟨g, 0, none⟩), .map (some mb)] w (HasPost w (∀ k : Nat, k < 6 → FitP (f k) (R.readE k) (R.readS k))) := by
  have HL := Lib.hid h
  have HM := Lib.hid hm
  have OK := Lib.hid hok
  have F1 := Lib.hid hf1
  clear h hm hok hf1
  go_enter Try.func25, Try.ntmps25
  go_wp2_with fail
  go_loopw [5] (fun v5 wr => ∃ k : Nat, k ≤ 6 ∧ v5 = .int .i64 k ∧ Below w.heap.size w wr ∧ ∀ j : Nat, j < k → FitP (f j) (R.readE j) (R.readS j)) (fun v5 _ => 6 - (intOf v5).toNat)
  case atStart => exact ⟨0, by omega, rfl, Below.refl _ _, fun j hj => by omega⟩
  case round =>
    obtain ⟨k, hk, rfl, hb, hfit⟩ := hrel
    have HB := Lib.hid hb
    have FS := Lib.hid hfit
    clear hb hfit
    have NX := Lib.hid (fun (h : FitP (f k) (R.readE k) (R.readS k)) (j : Nat) (hj : j < k + 1) => by
      rcases Nat.lt_succ_iff_lt_or_eq.1 hj with h2 | h2
      · exact FS.out j h2
      · subst h2; exact h)
    by_cases hk2 : k < 6
    · have hrun := (HM.out.below HB.out).look k (wfI (by omega) (by omega))
      have TR := Lib.hid (wal_Read b gd g m1 m2 R k wr (HL.out.below HB.out) OK.out (F1.out k))
      have zm := zeros_make wr
      have zc := zeros_conv wr
      have zb := HB.out.alloc HB.out.size (.cells (u8s (List.replicate 1024 0)).toArray 5)
      have ZB := Lib.hid zb
      obtain ⟨Z, hZ⟩ : ∃ Z, zeroPage = Z := ⟨_, rfl⟩
      have HZ := Lib.hid hZ
      rw [hZ] at zc
      obtain ⟨WZ, hWZ⟩ : ∃ W, (wr.alloc (.cells (u8s (List.replicate 1024 0)).toArray 5)) = W := ⟨_, rfl⟩
      rw [hWZ] at zm zc ZB
      obtain ⟨E, hE⟩ : ∃ E, R.readE k = E := ⟨_, rfl⟩
      obtain ⟨S, hS⟩ : ∃ S, R.readS k = S := ⟨_, rfl⟩
      have HE := Lib.hid hE
      have HS := Lib.hid hS
      rw [hE, hS] at TR
      cases hfk : f k with
      | none =>
        have HF := Lib.hid hfk
        rw [hfk] at hrun
        clear hZ hWZ hE hS zb hfk
        simp only [Option.getD, Option.isSome] at hrun
        by_cases e0 : E = 0
        · subst e0
          by_cases hs : S = Z
          · subst hs
            go_wp2_with (go_at_call 28; (with_reducible refine TR.out.mono ?_); rintro e w3 ⟨rfl, rfl⟩)
            go_roundw
            case rel => exact ⟨k + 1, by omega, by simp, ZB.out, NX.out (by rw [HF.out, HS.out, HE.out]; exact fun _ => HZ.out.symm)⟩
            case measure => simp [intOf]; omega
          · have n2 := ba_neK hs
            have NF := Lib.hid (show ¬ ∀ k : Nat, k < 6 → FitP (f k) (R.readE k) (R.readS k) from fun hall => FitP.not_none HE.out (by rw [HS.out, HZ.out]; exact hs) (HF.out ▸ hall k hk2))
            clear hs
            go_wp2_with (go_at_call 28; (with_reducible refine TR.out.mono ?_); rintro e w3 ⟨rfl, rfl⟩)
            go_ret
            exact ⟨_, rfl, ⟨fun h => (by cases h), fun h => absurd h NF.out⟩, ZB.out⟩
        · have n1 : (E == 0) = false := by simpa using e0
          have n2 : (E != 0) = true := by simpa using e0
          have NE := Lib.hid e0
          clear zm zc e0
          go_wp2_with (go_at_call 28; (with_reducible refine TR.out.mono ?_); rintro e w3 ⟨rfl, rfl⟩)
          go_roundw
          case rel => exact ⟨k + 1, by omega, by simp, HB.out, NX.out (by rw [HF.out]; exact fun h => absurd (HE.out.symm.trans h) NE.out)⟩
          case measure => simp [intOf]; omega
      | some t =>
        have HF := Lib.hid hfk
        rw [hfk] at hrun
        clear hZ hWZ hE hS zb hfk zm zc
        simp only [Option.getD, Option.isSome] at hrun
        by_cases e0 : E = 0
        · subst e0
          by_cases hs : S = t
          · subst hs
            go_wp2_with (go_at_call 28; (with_reducible refine TR.out.mono ?_); rintro e w3 ⟨rfl, rfl⟩)
            go_roundw
            case rel => exact ⟨k + 1, by omega, by simp, HB.out, NX.out (by rw [HF.out, HS.out, HE.out]; exact ⟨rfl, rfl⟩)⟩
            case measure => simp [intOf]; omega
          · have n2 := ba_neK hs
            have NF := Lib.hid (show ¬ ∀ k : Nat, k < 6 → FitP (f k) (R.readE k) (R.readS k) from fun hall => FitP.not_some (.inr (by rw [HS.out]; exact hs)) (HF.out ▸ hall k hk2))
            clear hs
            go_wp2_with (go_at_call 28; (with_reducible refine TR.out.mono ?_); rintro e w3 ⟨rfl, rfl⟩)
            go_ret
            exact ⟨_, rfl, ⟨fun h => (by cases h), fun h => absurd h NF.out⟩, HB.out⟩
        · have n1 : (E == 0) = false := by simpa using e0
          have n2 : (E != 0) = true := by simpa using e0
          have NF := Lib.hid (show ¬ ∀ k : Nat, k < 6 → FitP (f k) (R.readE k) (R.readS k) from fun hall => FitP.not_some (.inl (by rw [HE.out]; exact e0)) (HF.out ▸ hall k hk2))
          clear e0
          go_wp2_with (go_at_call 28; (with_reducible refine TR.out.mono ?_); rintro e w3 ⟨rfl, rfl⟩)
          go_ret
          exact ⟨_, rfl, ⟨fun h => (by cases h), fun h => absurd h NF.out⟩, HB.out⟩
    · have hk3 : k = 6 := by omega
      subst hk3
      go_wp2_with fail
      go_ret
      exact ⟨_, rfl, ⟨fun _ => FS.out, fun _ => rfl⟩, HB.out⟩

theorem keep_has_yes (b : List (Option Nat)) (gd g m1 m2 mb nb : Nat) (R : Rw) (f : Int → Option ByteArray) (w : World) (h : LR w b gd g m1 m2 R) (hok : R.D.ok) (hf1 : ∀ n, R.f1 n ≤ 1000000) (hm : MS w mb nb f) (hF : ∀ k : Nat, k < 6 → FitP (f k) (R.readE k) (R.readS k)) :
    Calls Try.prog 25 #[.pointer (some ⟨g, 0, none⟩), .map (some mb)] w fun e w' => e = .returned (.bool true) ∧ Below w.heap.size w w' :=
  (keep_has b gd g m1 m2 mb nb R f w h hok hf1 hm).mono fun e w' ⟨v, he, hv, hb⟩ => ⟨by rw [he, hv.2 hF], hb⟩
theorem keep_has_no (b : List (Option Nat)) (gd g m1 m2 mb nb : Nat) (R : Rw) (f : Int → Option ByteArray) (w : World) (h : LR w b gd g m1 m2 R) (hok : R.D.ok) (hf1 : ∀ n, R.f1 n ≤ 1000000) (hm : MS w mb nb f) (hF : ¬ ∀ k : Nat, k < 6 → FitP (f k) (R.readE k) (R.readS k)) :
    Calls Try.prog 25 #[.pointer (some ⟨g, 0, none⟩), .map (some mb)] w fun e w' => e = .returned (.bool false) ∧ Below w.heap.size w w' :=
  (keep_has b gd g m1 m2 mb nb R f w h hok hf1 hm).mono fun e w' ⟨v, he, hv, hb⟩ => ⟨by rw [he]; cases v with | false => rfl | true => exact absurd (hv.1 rfl) hF, hb⟩

end Go.Proofs.Ytjihboddejaelaa

/-
  Checkpoint of package wal: what it hands on to done; what a round of its loop keeps.
-/
namespace Go.Proofs.Ytjihboddejaelaa
set_option linter.unusedVariables false
set_option linter.unusedSimpArgs false
open Go.RowKit
open Go.BigFrame
open Go.Maps
set_option linter.unusedVariables false
set_option linter.unusedSimpArgs false

set_option maxRecDepth 100000 in
set_option maxHeartbeats 1600000 in
theorem wal_Checkpoint1 (b : List (Option Nat)) (gd g m1 m2 : Nat) (R : Rw) (bl : Nat) (w : World) (h : LR w b gd g m1 m2 R) (hx : Has w bl 36 #[.pointer (some ⟨g, 0, none⟩)]) (hfit : Fit R.D 1) (hp : R.np ≤ 4294967296) :
    Calls Try.prog 73 #[.pointer (some ⟨bl, 0, none⟩)] w (DPost w b gd (R.D.cutD 0 (R.np * 1024 : Nat)) (.int .i64 (R.D.cutE 0 (R.np * 1024 : Nat)))) := by
  have hd := (Below.refl w.heap.size w).drew
  have TP := Lib.hid (disk_Cut gd R.D b 0 (R.np * 1024 : Nat) w.drew (h.disk.below hd) hfit.ok (by have := hfit.count; omega) (by have := hfit.waits; omega))
  obtain ⟨E, hE⟩ : ∃ x, R.D.cutE 0 (R.np * 1024 : Nat) = x := ⟨_, rfl⟩
  obtain ⟨D', hD⟩ : ∃ x, R.D.cutD 0 (R.np * 1024 : Nat) = x := ⟨_, rfl⟩
  rw [hE, hD] at TP ⊢
  rw [show ((R.np * 1024 : Nat) : Int) = IntKind.i64.wrap ((R.np : Int) * 1024) from (Int.natCast_mul _ _).trans (IntWalk.i64_in _ (by omega)).symm] at TP
  have x0 := hx.cell 0
  have x1 := h.cell0
  have x2 : w.cell? ⟨g, 2, none⟩ = some (.int .i64 R.np) := h.has.cell 2
  have gz := h.has.lt
  have HB := Lib.hid (Turn.below b hd)
  clear hE hD h hx hfit hp hd
  go_enter Try.func73, Try.ntmps73
  go_wp2_with fail
  go_region_with
    (go_at_call 53; (with_reducible refine TP.out.mono ?_); rintro e w2 ⟨rfl, hd2⟩; have HD := Lib.hid hd2; clear hd2)
  all_goals
    go_wp2_with fail
    go_ret
    obtain ⟨b', q1, q2⟩ := HD.out
    exact ⟨rfl, b', q1, HB.out.trans q2⟩
set_option maxRecDepth 100000 in
set_option maxHeartbeats 1600000 in
theorem wal_Checkpoint3 (b : List (Option Nat)) (gd g m1 m2 : Nat) (R : Rw) (bl : Nat) (w : World) (h : LR w b gd g m1 m2 R) (hl : Has w bl 36 #[.pointer (some ⟨g, 0, none⟩)]) (hfit : Fit R.D 2) (hs : R.slot < 2) (hnum : R.number < 4) (hp : R.np ≤ 4611686018427387904) :
    Calls Try.prog 75 #[.pointer (some ⟨bl, 0, none⟩)] w (LinkPost w b gd g m1 m2 (R.tell 0 R.np) (R.tellE 0 R.np)) := by
  have hd := (Below.refl w.heap.size w).drew
  have TP := Lib.hid (wal_tell b gd g m1 m2 R 0 R.np w.drew (h.below hd) hfit hs hnum (by omega) hp)
  rw [show ((0 : Nat) : Int) = 0 from rfl] at TP
  obtain ⟨E, hE⟩ : ∃ x, R.tellE 0 R.np = x := ⟨_, rfl⟩
  rw [hE] at TP ⊢
  have x0 := hl.cell 0
  have x2 : w.cell? ⟨g, 2, none⟩ = some (.int .i64 R.np) := h.has.cell 2
  have gz := h.has.lt
  have HB := Lib.hid (Turn.below (b ++ lb g m1 m2) hd)
  clear hE h hl hfit hd
  go_enter Try.func75, Try.ntmps75
  go_wp2_with fail
  go_region_with
    (go_at_call 72; (with_reducible refine TP.out.mono ?_); rintro e w2 ⟨rfl, hd2⟩; have HD := Lib.hid hd2; clear hd2)
  all_goals
    go_wp2_with fail
    go_ret
    obtain ⟨b', q1, q2⟩ := HD.out
    exact ⟨rfl, b', q1, HB.out.trans q2⟩
theorem enter_Checkpoint1 (cs : Array Value) (u : World) : (callFunc 73 cs).run Try.prog u = .ok (.enter 73 cs) u := by kernel_rfl
theorem enter_Checkpoint2 (cs : Array Value) (u : World) : (callFunc 74 cs).run Try.prog u = .ok (.enter 74 cs) u := by kernel_rfl
theorem enter_Checkpoint3 (cs : Array Value) (u : World) : (callFunc 75 cs).run Try.prog u = .ok (.enter 75 cs) u := by kernel_rfl
def checkFs (N : Nat) : List (FuncId × Array Value) := [(73, #[.pointer (some ⟨N, 0, none⟩)]), (74, #[.pointer (some ⟨N, 0, none⟩)]), (75, #[.pointer (some ⟨N, 0, none⟩)])]
def checkXs (gs N g : Nat) : List (Nat × TypeId × Array Value) :=
  [(gs, 50, ((checkFs N).map (fun x => Value.func (.func x.1) #[] x.2)).toArray), (N, 36, #[.pointer (some ⟨g, 0, none⟩)])]
theorem checkBox_of {u : World} {gs N g : Nat} (h : Boxes u (checkXs gs N g)) : Has u N 36 #[.pointer (some ⟨g, 0, none⟩)] := h (N, _, _) (by simp [checkXs])
set_option maxRecDepth 100000 in
theorem wal_checkChain (b b0 : List (Option Nat)) (gd g m1 m2 N : Nat) (R : Rw) (w0 w : World) (h : LR w b gd g m1 m2 R) (hfit : Fit R.D 4) (hs : R.slot < 2) (hnum : R.number < 4) (hp : R.np ≤ 4294967296)
    (hx : Has w N 36 #[.pointer (some ⟨g, 0, none⟩)]) (hN : some N ∉ b ++ lb g m1 m2) (ht : Turn (b0 ++ lb g m1 m2) (b ++ lb g m1 m2) w0 w) :
    Calls Try.prog 68 #[.slice (some ⟨w.heap.size, 0, none⟩) 3 3] (w.alloc (.cells ((checkFs N).map (fun x => Value.func (.func x.1) #[] x.2)).toArray 50)) fun e w' => e = .returned (.int .i64 (upTo (checkEs R R.np) 3).2) ∧ Held w0 b0 gd g m1 m2 (checkXs w.heap.size N g) (checkR R R.np (upTo (checkEs R R.np) 3).1) w' := by
  have hb := (Below.refl w.heap.size w).alloc (Nat.le_refl _) (.cells ((checkFs N).map (fun x => Value.func (.func x.1) #[] x.2)).toArray 50)
  refine wal_chain (checkFs N) w.heap.size 3 w0 b0 gd g m1 m2 _ (checkR R R.np) (checkEs R R.np) 50 _ rfl (by omega) (by simp [checkXs]) ⟨b, h.below hb, ?_, ?_, ht.trans (Turn.below _ hb)⟩ ?_ ?_
  · intro x hx2
    simp only [checkXs, List.mem_cons, List.not_mem_nil, or_false] at hx2
    rcases hx2 with rfl | rfl
    · exact Has.new _ _ _
    · exact hx.alloc _
  · intro x hx2 h2
    have h3 := h.lt h2
    simp only [checkXs, List.mem_cons, List.not_mem_nil, or_false] at hx2
    rcases hx2 with rfl | rfl
    · simp only at h3; omega
    · exact hN h2
  · intro i k cs hi u
    have h4 : i < 3 := (List.getElem?_eq_some_iff.1 hi).1
    obtain rfl | rfl | rfl : i = 0 ∨ i = 1 ∨ i = 2 := by omega
    · cases hi; exact enter_Checkpoint1 _ _
    · cases hi; exact enter_Checkpoint2 _ _
    · cases hi; exact enter_Checkpoint3 _ _
  · intro i k cs hi u b' hl hx2 ho hu
    have h4 : i < 3 := (List.getElem?_eq_some_iff.1 hi).1
    have hB := checkBox_of hx2
    have f1 : Fit (R.D.cutD 0 (R.np * 1024 : Nat)) 3 := hfit.cut _ _
    have f2 : Fit ((R.D.cutD 0 (R.np * 1024 : Nat)).sync 0) 2 := f1.sync _
    obtain rfl | rfl | rfl : i = 0 ∨ i = 1 ∨ i = 2 := by omega
    · cases hi
      exact (wal_Checkpoint1 b' gd g m1 m2 R _ u hl hB (hfit.less (by omega)) hp).mono fun e w' hp => LinkPost.ofDisk (R := R) hl hp
    · cases hi
      exact (wal_Checkpoint2 b' gd g m1 m2 _ _ u hl hB (f1.less (by omega))).mono fun e w' hp => LinkPost.ofDisk (R := { R with D := R.D.cutD 0 (R.np * 1024 : Nat) }) hl hp
    · cases hi
      exact wal_Checkpoint3 b' gd g m1 m2 { R with D := (R.D.cutD 0 (R.np * 1024 : Nat)).sync 0 } _ u hl hB f2 hs hnum (show R.np ≤ _ by omega)

theorem readS_size {D : Dk} (hok : D.ok) {f a n : Int} (hf : 0 ≤ f ∧ f < 2) : (D.readS f a n).size ≤ 67108864 := by
  unfold Dk.readS
  split
  · rw [bsOf_size, List.length_take, List.length_drop]
    have := hok.seen f.toNat
    omega
  · exact Nat.zero_le _
theorem rwreadS_size {R : Rw} (hok : R.D.ok) (n : Int) : (R.readS n).size ≤ 67108864 := by
  unfold Rw.readS
  split
  · split
    · exact readS_size hok (by omega)
    · split
      · exact Nat.zero_le _
      · split
        · exact Nat.zero_le _
        · exact readS_size hok (by omega)
  · exact Nat.zero_le _
theorem put1_fit {M : Rw} {m : Nat} (h : Fit M.D (70000 - min m 65537)) : Fit (M.put1 m).D (70000 - min (m + 1) 65537) := by
  unfold Rw.put1
  split
  · exact h.less (by omega)
  · split
    · exact h.less (by omega)
    · by_cases hm : m < 65537
      · have h2 : Fit M.D ((70000 - min (m + 1) 65537) + 1) := h.less (by omega)
        exact h2.write _ _ _
      · show Fit (M.D.write 0 (m * 1024 : Nat) (M.readS m)) _
        have hF : ¬ fitsF 0 (m * 1024 : Nat) (M.readS m).size := by unfold fitsF; omega
        unfold Dk.write; rw [if_neg hF]; exact h.less (by omega)

end Go.Proofs.Ytjihboddejaelaa

/-
  Checkpoint of package wal: the whole.
-/
namespace Go.Proofs.Ytjihboddejaelaa
set_option linter.unusedVariables false
set_option linter.unusedSimpArgs false
open Go.RowKit
open Go.BigFrame
open Go.Maps
set_option linter.unusedVariables false
set_option linter.unusedSimpArgs false

theorem make_none (w : World) : (Instr.makeMap 102 none).run Try.prog w = .ok (.map (some w.heap.size)) (w.alloc (.map #[] 0)) := rfl
theorem put1_same (R : Rw) (m : Nat) : R.put1 m = { R with D := (R.put1 m).D } := by
  unfold Rw.put1
  split
  · rfl
  · split <;> rfl
theorem puts_same : ∀ (k m : Nat) (R : Rw), (Rw.puts k m R).1 = { R with D := (Rw.puts k m R).1.D }
  | 0, m, R => rfl
  | k + 1, m, R => by
    rw [Rw.puts]
    split
    · have h := puts_same k (m + 1) (R.put1 m)
      rw [put1_same R m] at h ⊢
      exact h
    · exact put1_same R m
/-- the loop of Checkpoint, page m: M is what became of R -/
structure PutAt (R : Rw) (m : Nat) (M : Rw) : Prop where
  le : m ≤ R.np
  goes : Rw.puts R.np 0 R = Rw.puts (R.np - m) m M
  same : M = { R with D := M.D }
  fit : Fit M.D (70000 - min m 65537)
theorem PutAt.start {R : Rw} (h : Fit R.D 70000) : PutAt R 0 R := ⟨Nat.zero_le _, rfl, rfl, h.less (by omega)⟩
theorem PutAt.next {R M : Rw} {m : Nat} (h : PutAt R m M) (hm : m < R.np) (he : M.put1E m = 0) : PutAt R (m + 1) (M.put1 m) := by
  refine ⟨hm, ?_, ?_, put1_fit h.fit⟩
  · rw [h.goes, show R.np - m = (R.np - (m + 1)) + 1 by omega, Rw.puts, if_pos he]
  · have h2 := h.same
    have h3 := put1_same M m
    generalize M.put1 m = X at *
    rw [h3, h2]
theorem PutAt.stop {R M : Rw} {m : Nat} (h : PutAt R m M) (hm : m < R.np) (he : M.put1E m ≠ 0) : Rw.puts R.np 0 R = (M.put1 m, M.put1E m) := by
  rw [h.goes, show R.np - m = (R.np - (m + 1)) + 1 by omega, Rw.puts, if_neg he]
theorem PutAt.last {R M : Rw} {m : Nat} (h : PutAt R m M) (hm : m = R.np) : Rw.puts R.np 0 R = (M, 0) := by
  rw [h.goes, show R.np - m = 0 by omega, Rw.puts]
def PutHeld (w : World) (b : List (Option Nat)) (gd g m1 m2 N : Nat) (M : Rw) (wr : World) : Prop :=
  ∃ b', LR wr b' gd g m1 m2 M ∧ Has wr N 36 #[.pointer (some ⟨g, 0, none⟩)] ∧ some N ∉ b' ++ lb g m1 m2 ∧ Turn (b ++ lb g m1 m2) (b' ++ lb g m1 m2) w wr
theorem PutHeld.disk {w wr w' : World} {b b' b'' : List (Option Nat)} {gd g m1 m2 N : Nat} {M : Rw} {D' : Dk} (hl : LR wr b' gd g m1 m2 M) (hx : Has wr N 36 #[.pointer (some ⟨g, 0, none⟩)]) (ho : some N ∉ b' ++ lb g m1 m2) (ht : Turn (b ++ lb g m1 m2) (b' ++ lb g m1 m2) w wr)
    (hd : DP w' b'' gd D') (hu : Turn b' b'' wr w') : PutHeld w b gd g m1 m2 N { M with D := D' } w' := by
  obtain ⟨h1, h2⟩ := hl.onDisk hd hu
  exact ⟨b'', h1, hx.turn hu (fun h3 => ho (List.mem_append_left _ h3)), h2.not hx.lt ho, ht.trans h2⟩

set_option maxRecDepth 100000 in
set_option maxHeartbeats 6400000 in
theorem wal_Checkpoint (b : List (Option Nat)) (gd g m1 m2 : Nat) (R : Rw) (w : World) (h : LR w b gd g m1 m2 R) (hfit : Fit R.D 70000) (hs : R.slot < 2) (hnum : R.number < 4) (hp : R.np ≤ 4294967296) (hf1 : ∀ x, R.f1 x ≤ 1000000) :
    Calls Try.prog 21 #[.pointer (some ⟨g, 0, none⟩)] w (MapsPost w b gd g m1 m2 R.checkpoint.1 (.int .i64 R.checkpoint.2)) := by
  have HW := Lib.hid (show Has (w.alloc (.cells #[.pointer (some ⟨g, 0, none⟩)] 36)) w.heap.size 36 #[.pointer (some ⟨g, 0, none⟩)] ∧ Below w.heap.size w (w.alloc (.cells #[.pointer (some ⟨g, 0, none⟩)] 36)) from ⟨Has.new _ _ _, (Below.refl _ _).alloc (Nat.le_refl _) _⟩)
  have HL := Lib.hid h
  have NB := Lib.hid (show some w.heap.size ∉ b ++ lb g m1 m2 from fun h2 => by have := h.lt h2; omega)
  by_cases h1 : R.nf ≠ R.kf
  · have e1 : R.checkpoint = (R, 11) := if_pos h1
    rw [e1]
    have t1 : ((R.nf : Int) != (R.kf : Int)) = true := by rw [bne_iff_ne]; omega
    clear h hfit
    go_enter Try.func21, Try.ntmps21
    go_upto_region 1 with fail
    generalize w.alloc (.cells #[.pointer (some ⟨g, 0, none⟩)] 36) = W at *
    have LW := Lib.hid (HL.out.below HW.out.2)
    have x0 := HW.out.1.cell 0
    obtain ⟨z1, z2, z3⟩ := LW.out.now
    obtain ⟨z4, z5, z6⟩ := LW.out.old
    have gz := LW.out.has.lt
    have hqb := (Below.refl W.heap.size W).drew
    have LQ := Lib.hid (LW.out.below hqb)
    go_region
    go_wp2_with fail
    go_ret
    exact ⟨rfl, b, m1, m2, LQ.out, (Turn.below _ HW.out.2).trans (Turn.below _ hqb)⟩
  · have h1' : R.nf = R.kf := Classical.byContradiction h1
    have t1 : ((R.nf : Int) != (R.kf : Int)) = false := by rw [bne_eq_false_iff_eq]; omega
    by_cases h2 : R.nf = 0
    · have e1 : R.checkpoint = (R, 0) := (if_neg h1).trans (if_pos h2)
      rw [e1]
      have t2 : ((R.nf : Int) == 0) = true := by simp; exact h2
      clear h hfit h1
      go_enter Try.func21, Try.ntmps21
      go_upto_region 1 with fail
      generalize w.alloc (.cells #[.pointer (some ⟨g, 0, none⟩)] 36) = W at *
      have LW := Lib.hid (HL.out.below HW.out.2)
      have x0 := HW.out.1.cell 0
      obtain ⟨z1, z2, z3⟩ := LW.out.now
      obtain ⟨z4, z5, z6⟩ := LW.out.old
      have gz := LW.out.has.lt
      have hqb := (Below.refl W.heap.size W).drew
      have LQ := Lib.hid (LW.out.below hqb)
      go_region
      have XQ := Lib.hid (HW.out.1.belowS hqb)
      have q0 := XQ.out.cell 0
      obtain ⟨q1, q2, q3⟩ := LQ.out.now
      have qz := LQ.out.has.lt
      go_wp2_with fail
      go_ret
      exact ⟨rfl, b, m1, m2, LQ.out, (Turn.below _ HW.out.2).trans (Turn.below _ hqb)⟩
    · have t2 : ((R.nf : Int) == 0) = false := by rw [beq_eq_false_iff_ne]; omega
      have EC := Lib.hid (show R.checkpoint = if (Rw.puts R.np 0 R).2 ≠ 0 then Rw.puts R.np 0 R else (Rw.puts R.np 0 R).1.check3 from (if_neg h1).trans (if_neg h2))
      have HF := Lib.hid hfit
      have HF1 := Lib.hid hf1
      have HP := Lib.hid hp
      have H1' := Lib.hid h1'
      clear h hfit h1 hf1 hp h1' h2
      go_enter Try.func21, Try.ntmps21
      go_upto_region 1 with fail
      generalize w.alloc (.cells #[.pointer (some ⟨g, 0, none⟩)] 36) = W at *
      have LW := Lib.hid (HL.out.below HW.out.2)
      have x0 := HW.out.1.cell 0
      obtain ⟨z1, z2, z3⟩ := LW.out.now
      obtain ⟨z4, z5, z6⟩ := LW.out.old
      have gz := LW.out.has.lt
      have hqb := (Below.refl W.heap.size W).drew
      have LQ := Lib.hid (LW.out.below hqb)
      go_region
      have XQ := Lib.hid (HW.out.1.belowS hqb)
      have TQ := Lib.hid ((Turn.below (b ++ lb g m1 m2) HW.out.2).trans (Turn.below _ hqb))
      have q0 := XQ.out.cell 0
      obtain ⟨q1, q2, q3⟩ := LQ.out.now
      have qz := LQ.out.has.lt
      clear LW x0 z1 z2 z3 z4 z5 z6 gz HW hqb
      go_wp2_with fail
      go_loopw [29] (fun v29 wr => ∃ (m : Nat) (M : Rw), v29 = .int .i64 m ∧ PutAt R m M ∧ PutHeld w b gd g m1 m2 w.heap.size M wr) (fun v29 _ => R.np - (intOf v29).toNat)
      case atStart => exact ⟨0, R, rfl, PutAt.start HF.out, b, LQ.out, XQ.out, NB.out, TQ.out⟩
      case round =>
        obtain ⟨m, M, rfl, hM, b', hl, hx, ho, ht⟩ := hrel
        have HM := Lib.hid hM
        have HL2 := Lib.hid hl
        have HX := Lib.hid hx
        have HO := Lib.hid ho
        have HT := Lib.hid ht
        clear hM hl hx ho ht LQ XQ TQ q0 q1 q2 q3 qz HL NB
        have y0 := HX.out.cell 0
        obtain ⟨z1, z2, z3⟩ := HL2.out.now
        have x0 := HL2.out.cell0
        have gz := HL2.out.has.lt
        by_cases hm : m < R.np
        · have F1 := Lib.hid (show M.f1 = R.f1 by rw [HM.out.same])
          have mi : (m : Int) < (R.np : Int) := by omega
          have MP1 := Lib.hid HL2.out.map1
          have WN := Lib.hid (wfI (x := (m : Int)) (by omega) (by have := HP.out; omega))
          have mw : wrap64 ((m : Int) * 1024) = (m : Int) * 1024 := IntWalk.wrap64_in _ (by have := HP.out; omega)
          have mb : m ≤ 4294967296 := by have := HP.out; omega
          by_cases hk : M.f1 m = 0
          · have N1 := Lib.hid (HM.out.next hm (if_pos hk))
            have e1 : M.put1 m = M := if_pos hk
            rw [e1] at N1
            have HK := Lib.hid hk
            clear hk e1
            go_wp2_with (at_lookup; refine wpList_lookup_mp _ rfl _ _ rfl m1 M.nf M.f1 rfl MP1.out (m : Int) rfl WN.out ?_; rw [HK.out])
            go_roundw
            case rel => exact ⟨m + 1, M, by simp, N1.out, b', HL2.out, HX.out, HO.out, HT.out⟩
            case measure => simp [intOf]; omega
          · have hfm := HF1.out m
            rw [← F1.out] at hfm
            have RD := Lib.hid (wal_Read b' gd g m1 m2 M m wr HL2.out HM.out.fit.ok hfm)
            have hsz := rwreadS_size HM.out.fit.ok (R := M) m
            have HE := Lib.hid (show M.put1E m = if M.readE m ≠ 0 then M.readE m else M.D.writeE 0 (m * 1024 : Nat) (M.readS m) from if_neg hk)
            have HD := Lib.hid (show M.put1 m = if M.readE m ≠ 0 then M else { M with D := M.D.write 0 (m * 1024 : Nat) (M.readS m) } from if_neg hk)
            have WT := Lib.hid (disk_Write gd M.D b' 0 (m * 1024 : Nat) (M.readS m) wr HL2.out.disk HM.out.fit.ok (by have := HM.out.fit.count; omega) (by have := HM.out.fit.waits; omega) (by omega))
            obtain ⟨S, hS⟩ : ∃ S, M.readS m = S := ⟨_, rfl⟩
            obtain ⟨E1, hE1⟩ : ∃ E, M.readE m = E := ⟨_, rfl⟩
            rw [hS, hE1] at RD
            rw [hS, hE1] at HE HD
            rw [hS] at WT
            obtain ⟨E2, hE2⟩ : ∃ E, M.D.writeE 0 (m * 1024 : Nat) S = E := ⟨_, rfl⟩
            obtain ⟨D', hD'⟩ : ∃ E, M.D.write 0 (m * 1024 : Nat) S = E := ⟨_, rfl⟩
            rw [hE2] at HE
            rw [hD'] at HD
            rw [hE2, hD', Int.natCast_mul] at WT
            rw [show ((1024 : Nat) : Int) = 1024 from rfl] at WT
            obtain ⟨k, hkk⟩ : ∃ k, M.f1 m = k := ⟨_, rfl⟩
            have HK := Lib.hid hkk
            rw [hkk] at hk hfm
            have k0 : ((k : Int) == 0) = false := by rw [beq_eq_false_iff_ne]; omega
            clear hS hE1 hE2 hD' hkk hk hsz
            by_cases h3 : E1 = 0
            · subst h3
              have HE' := Lib.hid (show M.put1E m = E2 from HE.out.trans (if_neg (fun h => h rfl)))
              have HD'' := Lib.hid (show M.put1 m = { M with D := D' } from HD.out.trans (if_neg (fun h => h rfl)))
              clear HE HD
              by_cases h4 : E2 = 0
              · subst h4
                have N1 := Lib.hid (HM.out.next hm HE'.out)
                rw [HD''.out] at N1
                go_wp2_with (first | (at_lookup; refine wpList_lookup_mp _ rfl _ _ rfl m1 M.nf M.f1 rfl MP1.out (m : Int) rfl WN.out ?_; rw [HK.out]) | (go_at_call 28; refine (RD.out).mono ?_; rintro e w1 ⟨rfl, rfl⟩) | (go_at_call 51; (with_reducible refine WT.out.mono ?_); rintro e w2 ⟨rfl, b2, hd2, ht2⟩; have HD2 := Lib.hid (PutHeld.disk HL2.out HX.out HO.out HT.out hd2 ht2); clear hd2 ht2))
                go_roundw
                case rel => exact ⟨m + 1, _, by simp, N1.out, HD2.out⟩
                case measure => simp [intOf]; omega
              · have N1 := Lib.hid (HM.out.stop hm (by rw [HE'.out]; exact h4))
                rw [HD''.out, HE'.out] at N1
                go_wp2_with (first | (at_lookup; refine wpList_lookup_mp _ rfl _ _ rfl m1 M.nf M.f1 rfl MP1.out (m : Int) rfl WN.out ?_; rw [HK.out]) | (go_at_call 28; refine (RD.out).mono ?_; rintro e w1 ⟨rfl, rfl⟩) | (go_at_call 51; (with_reducible refine WT.out.mono ?_); rintro e w2 ⟨rfl, b2, hd2, ht2⟩; have HD2 := Lib.hid (PutHeld.disk HL2.out HX.out HO.out HT.out hd2 ht2); clear hd2 ht2))
                go_ret
                rw [EC.out, N1.out, if_pos h4]
                obtain ⟨b3, q1, _, _, q4⟩ := HD2.out
                exact ⟨rfl, b3, m1, m2, q1, q4⟩
            · have HE' := Lib.hid (show M.put1E m = E1 from HE.out.trans (if_pos h3))
              have HD'' := Lib.hid (show M.put1 m = M from HD.out.trans (if_pos h3))
              have N1 := Lib.hid (HM.out.stop hm (by rw [HE'.out]; exact h3))
              rw [HD''.out, HE'.out] at N1
              clear HE HD
              go_wp2_with (first | (at_lookup; refine wpList_lookup_mp _ rfl _ _ rfl m1 M.nf M.f1 rfl MP1.out (m : Int) rfl WN.out ?_; rw [HK.out]) | (go_at_call 28; refine (RD.out).mono ?_; rintro e w1 ⟨rfl, rfl⟩))
              go_ret
              rw [EC.out, N1.out, if_pos h3]
              exact ⟨rfl, b', m1, m2, HL2.out, HT.out⟩
        · have hm2 : m = R.np := by have := HM.out.le; omega
          have R1 := Lib.hid (show R.checkpoint = M.check3 by rw [EC.out, HM.out.last hm2, if_neg (fun h => h rfl)])
          have np : M.np = R.np := by rw [HM.out.same]
          have CH := Lib.hid (wal_checkChain b' b gd g m1 m2 w.heap.size M w wr HL2.out (HM.out.fit.less (by omega)) (by rw [HM.out.same]; exact hs) (by rw [HM.out.same]; exact hnum) (by rw [np]; exact HP.out) HX.out HO.out HT.out)
          have r0 : M.check3 = if (upTo (checkEs M M.np) 3).2 = 0 then ({ checkR M M.np (upTo (checkEs M M.np) 3).1 with nf := 0, np := (checkR M M.np (upTo (checkEs M M.np) 3).1).kp, f1 := fun _ => 0, kf := 0, kp := (checkR M M.np (upTo (checkEs M M.np) 3).1).kp, f2 := fun _ => 0 }, 0) else (checkR M M.np (upTo (checkEs M M.np) 3).1, (upTo (checkEs M M.np) 3).2) := rfl
          obtain ⟨E, hE⟩ : ∃ E, (upTo (checkEs M M.np) 3).2 = E := ⟨_, rfl⟩
          obtain ⟨C, hC⟩ : ∃ C, checkR M M.np (upTo (checkEs M M.np) 3).1 = C := ⟨_, rfl⟩
          rw [hE, hC] at r0 CH
          rw [r0] at R1
          have mi : ¬ ((m : Int) < (R.np : Int)) := by omega
          clear hE hC r0 np hm hm2
          by_cases hE0 : E = 0
          · subst hE0
            have hmm := make_none
            go_wp2_with ((go_at_call 68; refine CH.out.mono ?_); rintro e w2 ⟨rfl, hH⟩; obtain ⟨b2, hl, hx, ho, ht⟩ := hH; have HL3 := Lib.hid hl; have HX3 := Lib.hid (checkBox_of hx); have HT3 := Lib.hid ht; have HO3 := Lib.hid (ho (w.heap.size, 36, #[.pointer (some ⟨g, 0, none⟩)]) (by simp [checkXs])); have y1 := (checkBox_of hx).cell 0; have yl := (checkBox_of hx).lt; obtain ⟨z4, z5, z6⟩ := hl.old; have zf := hl.has.frozen; have zz := hl.has.lt; clear hl hx ho ht)
            clear HM HL2 HX HO HT y0 z1 z2 z3 x0 gz CH
            have hz := HL3.out.has.lt
            have EQ := Lib.hid (show (((w2.alloc (.map #[] 0)).setCell ⟨g, 4, none⟩ (.int .i64 0)).setCell ⟨g, 5, none⟩ (.int .i64 C.kp)).setCell ⟨g, 6, none⟩ (.map (some w2.heap.size)) = (((w2.setCell ⟨g, 4, none⟩ (.int .i64 0)).setCell ⟨g, 5, none⟩ (.int .i64 C.kp)).setCell ⟨g, 6, none⟩ (.map (some w2.heap.size))).alloc (.map #[] 0) by simp [go_sem, hz])
            have CP := Lib.hid (fun m' w1 (h1 : MP w1 m' 0 (fun _ => 0)) => wal_copied m' 0 C.kp 0 (fun _ => 0) w1 (by omega) h1)
            rw [show ((0 : Nat) : Int) = 0 from rfl] at CP
            go_region
            all_goals
              have ba := (Below.refl w2.heap.size w2).alloc (Nat.le_refl _) (.map #[] 0)
              obtain ⟨h5, t5⟩ := (HL3.out.below ba).newKept (Turn.below (b2 ++ lb g m1 m2) ba) (MP.made w2) (fun h3 => by have := HL3.out.lt h3; omega) (Nat.le_refl _) C.kp
              have x5 := ((((HX3.out.alloc (.map #[] 0)).far (p := ⟨g, 4, none⟩) (fun e => HO3.out (by rw [e]; exact List.mem_append_right _ (mem_lb.2 (.inl rfl)))) (.int .i64 0)).far (p := ⟨g, 5, none⟩) (fun e => HO3.out (by rw [e]; exact List.mem_append_right _ (mem_lb.2 (.inl rfl)))) (.int .i64 C.kp)).far (p := ⟨g, 6, none⟩) (fun e => HO3.out (by rw [e]; exact List.mem_append_right _ (mem_lb.2 (.inl rfl)))) (.map (some w2.heap.size)))
              rw [show ((0 : Nat) : Int) = 0 from rfl, EQ.out] at h5 t5
              rw [EQ.out] at x5
              have HK := Lib.hid h5
              have TK := Lib.hid t5
              have XK := Lib.hid x5
              clear h5 t5 x5 ba EQ hmm z4 z5 z6 zf zz y1 yl hz
              generalize (((w2.setCell ⟨g, 4, none⟩ (.int .i64 0)).setCell ⟨g, 5, none⟩ (.int .i64 C.kp)).setCell ⟨g, 6, none⟩ (.map (some w2.heap.size))).alloc (.map #[] 0) = V at *
              have HU := Lib.hid (HK.out.below (Below.refl _ _).drew)
              have XU := Lib.hid (XK.out.belowS (Below.refl _ _).drew)
              have TU := Lib.hid (TK.out.trans (Turn.below _ (Below.refl _ _).drew))
              clear HK XK TK
              generalize V.drew = U at *
              have y0 := XU.out.cell 0
              have LD := Lib.hid (HU.out.below (Below.refl _ _).drew)
              have YD := Lib.hid (XU.out.belowS (Below.refl _ _).drew)
              obtain ⟨q4, q5, q6⟩ := HU.out.old
              dsimp only at q4 q5 q6
              rw [show ((0 : Nat) : Int) = 0 from rfl] at q4
              obtain ⟨q1, q2, q3⟩ := HU.out.now
              have qz := HU.out.has.lt
              have qf := HU.out.has.frozen
              go_wp2_with fail
              go_region_with ((go_at_call 66; refine (CP.out _ _ LD.out.map2).mono ?_); rintro e w3 ⟨m', rfl, hm, hlow, hb⟩; have HM := Lib.hid hm; have HW := Lib.hid hlow; have HB := Lib.hid hb; have c1 := (LD.out.below hb).now; have y1 := (LD.out.below hb).has.lt; have yf := (LD.out.below hb).has.frozen; have yl := (YD.out.belowS hb).cell 0; clear hm hlow hb; obtain ⟨c1, c2, c3⟩ := c1)
              all_goals
                go_wp2_with fail
                go_ret
                have H3 := LD.out.below HB.out
                have hv : Turn (b2 ++ lb g m1 w2.heap.size) (b2 ++ lb g m1 w2.heap.size) U U.drew := Turn.below _ (Below.refl _ _).drew
                obtain ⟨h4, t4⟩ := H3.newNow (hv.trans (Turn.below _ HB.out)) HM.out (fun h3 => by have := LD.out.lt h3; have := HW.out; omega) HW.out C.kp
                rw [show ((0 : Nat) : Int) = 0 from rfl] at h4 t4
                rw [R1.out]
                first | rw [if_pos rfl] | rw [if_pos trivial]
                exact ⟨rfl, b2, m', w2.heap.size, h4, (HT3.out.trans TU.out).trans t4⟩
          · go_wp2_with ((go_at_call 68; refine CH.out.mono ?_); rintro e w2 ⟨rfl, hH⟩; obtain ⟨b2, hl, hx, ho, ht⟩ := hH; have HL3 := Lib.hid hl; have HX3 := Lib.hid (checkBox_of hx); have HT3 := Lib.hid ht; have HO3 := Lib.hid (ho (w.heap.size, 36, #[.pointer (some ⟨g, 0, none⟩)]) (by simp [checkXs])); have y1 := (checkBox_of hx).cell 0; have yl := (checkBox_of hx).lt; obtain ⟨z4, z5, z6⟩ := hl.old; have zf := hl.has.frozen; have zz := hl.has.lt; clear hl hx ho ht)
            go_ret
            rw [R1.out, if_neg hE0]
            exact ⟨rfl, b2, m1, m2, HL3.out, HT3.out⟩

end Go.Proofs.Ytjihboddejaelaa

/-
  The log of the law LogKept in memory, beside the maps that tell what it is to hold; its operations.
-/
namespace Go.Proofs.Ytjihboddejaelaa
set_option linter.unusedVariables false
set_option linter.unusedSimpArgs false
open Go.RowKit
open Go.BigFrame
open Go.Maps
set_option linter.unusedVariables false
set_option linter.unusedSimpArgs false

def lift (K : Nat → Option ByteArray) : Int → Option ByteArray := fun x => if 0 ≤ x then K x.toNat else none
theorem lift_nat (K : Nat → Option ByteArray) (n : Nat) : lift K n = K n := by
  unfold lift; rw [if_pos (by omega), Int.toNat_natCast]
theorem lift_with (K : Nat → Option ByteArray) (n : Nat) (t : ByteArray) : (fun y : Int => if y = (n : Int) then some t else lift K y) = lift (withP K n t) := by
  funext y
  unfold lift withP
  by_cases hy : y = (n : Int)
  · subst hy
    rw [if_pos rfl, if_pos (by omega), Int.toNat_natCast, if_pos rfl]
  · rw [if_neg hy]
    by_cases h0 : 0 ≤ y
    · rw [if_pos h0, if_pos h0, if_neg (by omega)]
    · rw [if_neg h0, if_neg h0]
theorem lift_nothing : lift nothing = fun _ => none := by
  funext y; unfold lift nothing; split <;> rfl

/-- the log L and the maps of what was committed (K), of what is there now (N), in memory that was made since w0 -/
structure KW (w0 w : World) (b : List (Option Nat)) (gd g m1 m2 : Nat) (L : Lg) (kb nb c : Nat) (K N : Nat → Option ByteArray) : Prop where
  p : LR w b gd g m1 m2 L.rw
  low : ∀ k, some k ∈ b ++ lb g m1 m2 → w0.heap.size ≤ k
  bel : Below w0.heap.size w0 w
  mK : MS w kb c (lift K)
  mN : MS w nb c (lift N)
  offk : some kb ∉ b ++ lb g m1 m2
  offn : some nb ∉ b ++ lb g m1 m2
def KPost (w0 : World) (gd g : Nat) (L' : Lg) (kb nb c : Nat) (K N : Nat → Option ByteArray) (v : Value) (e : Ending) (w' : World) : Prop :=
  e = .returned v ∧ ∃ b' m1' m2', KW w0 w' b' gd g m1' m2' L' kb nb c K N
section
variable {w0 w w' : World} {b b' : List (Option Nat)} {gd g m1 m2 m1' m2' kb nb c : Nat} {L L' : Lg} {K N : Nat → Option ByteArray}
theorem KW.step (h : KW w0 w b gd g m1 m2 L kb nb c K N) (hb : Below w.heap.size w w') : KW w0 w' b gd g m1 m2 L kb nb c K N :=
  ⟨h.p.below hb, h.low, bel_step h.bel hb h.bel.size, h.mK.below hb, h.mN.below hb, h.offk, h.offn⟩
theorem KW.turn (h : KW w0 w b gd g m1 m2 L kb nb c K N) (hp : LR w' b' gd g m1' m2' L'.rw) (ht : Turn (b ++ lb g m1 m2) (b' ++ lb g m1' m2') w w') : KW w0 w' b' gd g m1' m2' L' kb nb c K N :=
  ⟨hp, ht.low h.low h.bel.size, ht.bel h.bel h.low h.bel.size, h.mK.turn ht h.offk, h.mN.turn ht h.offn, ht.not h.mK.lt h.offk, ht.not h.mN.lt h.offn⟩
theorem KW.ofMaps (h : KW w0 w b gd g m1 m2 L kb nb c K N) {v : Value} {e : Ending} (hp : MapsPost w b gd g m1 m2 L'.rw v e w') : KPost w0 gd g L' kb nb c K N v e w' := by
  obtain ⟨he, b', m1', m2', h1, h2⟩ := hp
  exact ⟨he, b', m1', m2', h.turn h1 h2⟩
theorem KW.mono (h : KW w0 w b gd g m1 m2 L kb nb c K N) {d : Nat} (hd : c ≤ d) : KW w0 w b gd g m1 m2 L kb nb d K N :=
  ⟨h.p, h.low, h.bel, h.mK.mono hd, h.mN.mono hd, h.offk, h.offn⟩
/-- what is there now is told by another map, made anew -/
theorem KW.newN (h : KW w0 w b gd g m1 m2 L kb nb c K N) {nb' : Nat} {N' : Nat → Option ByteArray} (hm : MS w' nb' (c + 1) (lift N')) (hl : w.heap.size ≤ nb') (hb : Below w.heap.size w w') : KW w0 w' b gd g m1 m2 L kb nb' (c + 1) K N' :=
  ⟨h.p.below hb, h.low, bel_step h.bel hb h.bel.size, (h.mK.below hb).mono (Nat.le_succ _), hm, h.offk, fun h2 => by have := h.p.lt h2; omega⟩
theorem KW.keepNow (h : KW w0 w b gd g m1 m2 L kb nb c K N) : KW w0 w b gd g m1 m2 L nb nb c N N := ⟨h.p, h.low, h.bel, h.mN, h.mN, h.offn, h.offn⟩
theorem KW.backNow (h : KW w0 w b gd g m1 m2 L kb nb c K N) : KW w0 w b gd g m1 m2 L kb kb c K K := ⟨h.p, h.low, h.bel, h.mK, h.mK, h.offk, h.offk⟩
theorem kw_Append (h : KW w0 w b gd g m1 m2 L kb nb c K N) (ok : L.ok) (hfit : Fit L.D 1) (n : Int) (t : ByteArray) :
    Calls Try.prog 17 #[.pointer (some ⟨g, 0, none⟩), .int .i64 n, .string t] w (KPost w0 gd g (L.append n t) kb nb c K N (.int .i64 (L.appendE n t))) := by
  obtain ⟨e1, e2⟩ := rw_app ok n t
  refine (wal_Append b gd g m1 m2 L.rw n t w h.p hfit (show L.fs.length ≤ _ by have := ok.len; omega)).mono fun e w' hp => ?_
  rw [← e1, ← e2] at hp
  exact h.ofMaps hp.maps
theorem kw_Commit (h : KW w0 w b gd g m1 m2 L kb nb c K N) (ok : L.ok) (hfit : Fit L.D 4) (n : Int) (t : ByteArray) (p : Int) :
    Calls Try.prog 19 #[.pointer (some ⟨g, 0, none⟩), .int .i64 n, .string t, .int .i64 p] w (KPost w0 gd g (L.commit n t p) kb nb c K N (.int .i64 (L.commitE n t p))) := by
  obtain ⟨e1, e2⟩ := rw_commit ok n t p
  refine (wal_Commit b gd g m1 m2 L.rw n t p w h.p hfit ok.slot ok.number (show L.fs.length ≤ _ by have := ok.len; omega)).mono fun e w' hp => ?_
  rw [← e1, ← e2] at hp
  exact h.ofMaps hp
theorem kw_Back (h : KW w0 w b gd g m1 m2 L kb nb c K N) (ok : L.ok) :
    Calls Try.prog 20 #[.pointer (some ⟨g, 0, none⟩)] w (KPost w0 gd g L.back kb nb c K N (.tuple #[])) := by
  refine (wal_Back b gd g m1 m2 L.rw w h.p (show L.kept ≤ _ by have := ok.len; have := ok.kept; omega)).mono fun e w' hp => ?_
  rw [← rw_back ok] at hp
  exact h.ofMaps hp
theorem kw_Checkpoint (h : KW w0 w b gd g m1 m2 L kb nb c K N) (ok : L.ok) (hfit : Fit L.D 70000) (hd : L.D.down = false) :
    Calls Try.prog 21 #[.pointer (some ⟨g, 0, none⟩)] w (KPost w0 gd g L.checkpoint.1 kb nb c K N (.int .i64 L.checkpoint.2)) := by
  obtain ⟨e1, e2⟩ := rw_checkpoint ok hd
  refine (wal_Checkpoint b gd g m1 m2 L.rw w h.p hfit ok.slot ok.number (show L.pages ≤ _ by have := ok.pages; omega) (fun x => by show lastAt L.fs x ≤ _; have := lastAt_le L.fs x; have := ok.len; omega)).mono fun e w' hp => ?_
  rw [← e1, ← e2] at hp
  exact h.ofMaps hp
theorem kw_with (h : KW w0 w b gd g m1 m2 L kb nb c K N) (hc : c ≤ 100000) (n : Nat) (hn : n ≤ 1000) (s : ByteArray) (hs : s.size ≤ maxLen) :
    Calls Try.prog 18 #[.map (some nb), .int .i64 n, .string s] w (fun e w' => ∃ nb', e = .returned (.map (some nb')) ∧ KW w0 w' b gd g m1 m2 L kb nb' (c + 1) K (withP N n s)) :=
  (keep_with nb c (lift N) n s w hc h.mN (wfI (by omega) (by omega)) hs).mono fun e w' ⟨nb', he, hm, hl, hb⟩ => ⟨nb', he, h.newN (by rw [← lift_with]; exact hm) hl hb⟩
end
theorem go_down {D : Dk} (h : ¬ D.stops) : D.down = false := by
  cases hd : D.down with
  | false => rfl
  | true => exact absurd (.inl hd) h
theorem change_up {D : Dk} {c : Ch} (h : ¬ D.stops) : (D.change c).down = false := by
  unfold Dk.change Dk.turn
  rw [if_neg h, if_neg h]
  exact go_down (D := D) h
theorem sync_up {D : Dk} {f : Nat} (hf : f < 2) (h : ¬ D.stops) : (D.sync f).down = false := by
  unfold Dk.sync
  rw [if_pos (by omega), if_neg h]
  show D.turn.down = false
  unfold Dk.turn
  rw [if_neg h]
  exact go_down (D := D) h
theorem tell_live {L : Lg} {f p : Nat} (h : L.tellE f p = 0) : (L.tell f p).D.down = false := by
  unfold Lg.tellE at h
  by_cases h1 : L.D.stops
  · rw [if_pos h1] at h; cases h
  · rw [if_neg h1] at h
    have h2 := (turnE_zero _).1 h
    unfold Lg.tell
    rw [if_neg h1, if_neg h2]
    exact sync_up (f := 1) (by omega) h2
theorem append_up {L : Lg} (h : L.ok) (hlen : L.fs.length ≤ 1000) {n : Nat} (hn : n < 6) {t : ByteArray} (ht : t.size = 1024) (he : L.appendE n t = 0) : (L.append n t).D.down = false := by
  obtain ⟨e1, e2⟩ := append_eq h hlen hn ht
  rw [e1] at he
  rw [e2]
  exact change_up ((turnE_zero _).1 he)
theorem commit_up {L : Lg} {n : Int} {t : ByteArray} (he : L.commitE n t 6 = 0) : (L.commit n t 6).D.down = false := by
  unfold Lg.commitE at he
  unfold Lg.commit
  rw [if_pos (by decide)] at he ⊢
  by_cases h1 : L.appendE n t = 0
  · rw [if_pos h1] at he ⊢
    by_cases h2 : (L.append n t).D.stops
    · rw [if_pos h2] at he; cases he
    · rw [if_neg h2] at he ⊢
      exact tell_live he
  · rw [if_neg h1] at he; exact absurd he h1
theorem check3_up {L : Lg} {D : Dk} (he : (L.check3 D).2 = 0) : (L.check3 D).1.D.down = false := by
  unfold Lg.check3 at he ⊢
  by_cases h1 : D.cutE 0 (1024 * L.pages : Nat) ≠ 0
  · rw [if_pos h1] at he; exact absurd he h1
  · rw [if_neg h1] at he ⊢
    by_cases h2 : (D.cutD 0 (1024 * L.pages : Nat)).stops
    · rw [if_pos h2] at he; cases he
    · rw [if_neg h2] at he ⊢
      dsimp only at he ⊢
      by_cases h3 : ({ L with D := (D.cutD 0 (1024 * L.pages : Nat)).sync 0 } : Lg).tellE 0 L.pages = 0
      · rw [if_pos h3] at he ⊢
        exact tell_live h3
      · rw [if_neg h3] at he
        exact absurd he h3
theorem check3_no {L : Lg} {D : Dk} : (L.check3 D).2 ≠ 11 := fun he => by
  unfold Lg.check3 at he
  by_cases h1 : D.cutE 0 (1024 * L.pages : Nat) ≠ 0
  · rw [if_pos h1] at he
    dsimp only at he
    unfold Dk.cutE at he
    split at he
    · rcases turnE_two D with h | h
      · rw [h] at he; cases he
      · rw [h] at he; cases he
    · cases he
  · rw [if_neg h1] at he
    by_cases h2 : (D.cutD 0 (1024 * L.pages : Nat)).stops
    · rw [if_pos h2] at he; cases he
    · rw [if_neg h2] at he
      dsimp only at he
      rcases tellE_two ({ L with D := (D.cutD 0 (1024 * L.pages : Nat)).sync 0 } : Lg) 0 L.pages with h | h
      · rw [if_pos h] at he; cases he
      · rw [if_neg (by rw [h]; decide)] at he
        dsimp only at he
        rw [h] at he; cases he
theorem check_up {L : Lg} (ok : L.ok) (h6 : L.kept ≠ 0 → L.pages = 6) (hd : L.D.down = false) (he : L.checkpoint.2 = 0 ∨ L.checkpoint.2 = 11) : L.checkpoint.1.D.down = false := by
  unfold Lg.checkpoint at he ⊢
  by_cases h1 : L.fs.length ≠ L.kept
  · rw [if_pos h1]; exact hd
  · rw [if_neg h1] at he ⊢
    by_cases h2 : L.kept = 0
    · rw [if_pos h2]; exact hd
    · rw [if_neg h2] at he ⊢
      by_cases h3 : (L.puts L.pages 0 L.D).2 ≠ 0
      · rw [if_pos h3] at he
        have e6 := h6 h2
        have := puts_two ok 6 0 L.D (by omega)
        rw [← e6] at this
        dsimp only at he
        rcases this with h4 | h4
        · exact absurd h4 h3
        · rw [h4] at he
          exact absurd he (by decide)
      · rw [if_neg h3] at he ⊢
        rcases he with he | he
        · exact check3_up he
        · exact absurd he check3_no
/-- what a disk tells behind a crash -/
def Tot (D : Dk) (K M : Nat → Option ByteArray) : Prop := ∀ keep, TellsL (D.crash keep).l0 (D.crash keep).l1 K ∨ TellsL (D.crash keep).l0 (D.crash keep).l1 M
theorem Inv.tot {L : Lg} {K N : Nat → Option ByteArray} (h : Inv L K N) : Tot L.D K K := fun keep => .inl (safe_tells h.safe h.kept keep)

end Go.Proofs.Ytjihboddejaelaa

/-
  The ring of a pool's frames in memory: taken out, put at its end.
-/
namespace Go.Proofs.Ytjihboddejaelaa
set_option linter.unusedVariables false
set_option linter.unusedSimpArgs false
open Go.RowKit
set_option linter.unusedVariables false
set_option linter.unusedSimpArgs false

/-- a frame of a pool -/
structure Pf where
  n : Nat
  s : ByteArray
  pins : Nat
  dirty : Bool
def pf0 : Pf := ⟨0, ⟨#[]⟩, 0, false⟩
abbrev ptrB (b : Nat) : Value := .pointer (some ⟨b, 0, none⟩)
def frC (f : Pf) (p q : Nat) : Array Value := #[.int .i64 f.n, .string f.s, .int .i64 f.pins, .bool f.dirty, ptrB p, ptrB q]
/-- frames in a row behind p, ahead of q -/
def seg (w : World) : Nat → List Nat → List Pf → Nat → Prop
  | _, [], F, _ => F = []
  | p, a :: A, F, q => ∃ f r, F = f :: r ∧ Has w a 138 (frC f p (A.headD q)) ∧ seg w a A r q
section
variable {w w' : World}
theorem seg_len : ∀ {p : Nat} {A : List Nat} {F : List Pf} {q : Nat}, seg w p A F q → A.length = F.length
  | _, [], _, _, h => by rw [show _ = [] from h]; rfl
  | p, a :: A, _, q, h => by
    obtain ⟨f, r, rfl, _, h2⟩ := h
    simp [seg_len h2]
theorem seg_lt : ∀ {p : Nat} {A : List Nat} {F : List Pf} {q : Nat}, seg w p A F q → ∀ x ∈ A, x < w.heap.size
  | _, [], _, _, _, _, hx => by cases hx
  | p, a :: A, _, q, h, x, hx => by
    obtain ⟨f, r, rfl, h1, h2⟩ := h
    rcases List.mem_cons.1 hx with rfl | hx
    · exact h1.lt
    · exact seg_lt h2 x hx
theorem seg_kept : ∀ {p : Nat} {A : List Nat} {F : List Pf} {q : Nat}, (∀ x ∈ A, w'.heap[x]? = w.heap[x]?) → seg w p A F q → seg w' p A F q
  | _, [], _, _, _, h => h
  | p, a :: A, _, q, hb, h => by
    obtain ⟨f, r, rfl, h1, h2⟩ := h
    exact ⟨f, r, rfl, (hb a (List.mem_cons_self ..)).trans h1, seg_kept (fun x hx => hb x (List.mem_cons_of_mem _ hx)) h2⟩
theorem seg_far {p : Nat} {A : List Nat} {F : List Pf} {q : Nat} (h : seg w p A F q) {y : Addr} (hy : y.block ∉ A) (u : Value) : seg (w.setCell y u) p A F q :=
  seg_kept (fun x hx => Below.heap_setCell _ _ _ _ (fun e => hy (e ▸ hx))) h
/-- the last one's next -/
theorem seg_next : ∀ {p : Nat} {A : List Nat} {F : List Pf} {q z : Nat} (q' : Nat), seg w p (A ++ [z]) F q → z ∉ A → seg (w.setCell ⟨z, 5, none⟩ (ptrB q')) p (A ++ [z]) F q'
  | p, [], _, q, z, q', h, _ => by
    obtain ⟨f, r, rfl, h1, h2⟩ := h
    exact ⟨f, r, rfl, h1.set 5 (ptrB q'), h2⟩
  | p, a :: A, _, q, z, q', h, hz => by
    obtain ⟨f, r, rfl, h1, h2⟩ := h
    have hza : ¬ a = z := fun e => hz (e ▸ List.mem_cons_self ..)
    refine ⟨f, r, rfl, ?_, seg_next q' h2 (fun hm => hz (List.mem_cons_of_mem _ hm))⟩
    have e : (A ++ [z]).headD q' = (A ++ [z]).headD q := by cases A <;> rfl
    show Has _ a _ (frC f p ((A ++ [z]).headD q'))
    rw [e]
    exact h1.far hza _
/-- the first one's before -/
theorem seg_prev {p : Nat} {b : Nat} {A : List Nat} {F : List Pf} {q : Nat} (p' : Nat) (h : seg w p (b :: A) F q) (hb : b ∉ A) : seg (w.setCell ⟨b, 4, none⟩ (ptrB p')) p' (b :: A) F q := by
  obtain ⟨f, r, rfl, h1, h2⟩ := h
  exact ⟨f, r, rfl, h1.set 4 (ptrB p'), seg_far h2 hb _⟩
/-- in two -/
theorem seg_split : ∀ {p : Nat} {A B : List Nat} {F : List Pf} {q : Nat}, seg w p (A ++ B) F q → ∃ F1 F2, F = F1 ++ F2 ∧ seg w p A F1 (B.headD q) ∧ seg w (A.getLastD p) B F2 q
  | p, [], B, F, q, h => ⟨[], F, rfl, rfl, h⟩
  | p, a :: A, B, _, q, h => by
    rw [List.cons_append] at h
    obtain ⟨f, r, rfl, h1, h2⟩ := h
    obtain ⟨F1, F2, rfl, h3, h4⟩ := seg_split h2
    have e : (A ++ B).headD q = A.headD (B.headD q) := by cases A <;> rfl
    rw [e] at h1
    refine ⟨f :: F1, F2, rfl, ⟨f, F1, rfl, h1, h3⟩, ?_⟩
    have e2 : (a :: A).getLastD p = A.getLastD a := by cases A <;> rfl
    rw [e2]; exact h4
theorem seg_join : ∀ {p : Nat} {A B : List Nat} {F1 F2 : List Pf} {q : Nat}, seg w p A F1 (B.headD q) → seg w (A.getLastD p) B F2 q → seg w p (A ++ B) (F1 ++ F2) q
  | p, [], B, F1, F2, q, h1, h2 => by rw [show F1 = [] from h1]; exact h2
  | p, a :: A, B, _, F2, q, h1, h2 => by
    obtain ⟨f, r, rfl, h3, h4⟩ := h1
    have e : (A ++ B).headD q = A.headD (B.headD q) := by cases A <;> rfl
    have e2 : (a :: A).getLastD p = A.getLastD a := by cases A <;> rfl
    rw [e2] at h2
    rw [List.cons_append]
    exact ⟨f, r ++ F2, rfl, by rw [e]; exact h3, seg_join h4 h2⟩
/-- one of the frames turns -/
theorem seg_put {p : Nat} {A1 A2 : List Nat} {a : Nat} {F1 F2 : List Pf} {f f' : Pf} {q : Nat} (h : seg w p (A1 ++ a :: A2) (F1 ++ f :: F2) q) (hl : A1.length = F1.length) (h1 : a ∉ A1) (h2 : a ∉ A2)
    (hb : ∀ x, x ≠ a → w'.heap[x]? = w.heap[x]?) (hn : ∀ x y, Has w a 138 (frC f x y) → Has w' a 138 (frC f' x y)) : seg w' p (A1 ++ a :: A2) (F1 ++ f' :: F2) q := by
  obtain ⟨G1, G2, e, h3, h4⟩ := seg_split h
  have hl2 := seg_len h3
  obtain ⟨e1, e2⟩ := List.append_inj e (by omega)
  subst e1; subst e2
  obtain ⟨f2, r, e3, h5, h6⟩ := h4
  injection e3 with e4 e5
  subst e4; subst e5
  exact seg_join (seg_kept (fun x hx => hb x (fun e => h1 (e ▸ hx))) h3) ⟨f', F2, rfl, hn _ _ h5, seg_kept (fun x hx => hb x (fun e => h2 (e ▸ hx))) h6⟩
end

/-- the ring: its end e (no page's frame), the frames' blocks A -/
structure Ring (w : World) (e : Nat) (A : List Nat) (F : List Pf) : Prop where
  nodup : (e :: A).Nodup
  ends : Has w e 138 (frC pf0 (A.getLastD e) (A.headD e))
  row : seg w e A F e
section
variable {w w' : World} {e : Nat} {A A1 A2 : List Nat} {a : Nat} {F F1 F2 : List Pf} {f : Pf}
theorem Ring.len (h : Ring w e A F) : A.length = F.length := seg_len h.row
theorem Ring.lt (h : Ring w e A F) : ∀ x ∈ e :: A, x < w.heap.size := fun x hx => by
  rcases List.mem_cons.1 hx with rfl | hx
  · exact h.ends.lt
  · exact seg_lt h.row x hx
theorem Ring.kept (h : Ring w e A F) (hb : ∀ x ∈ e :: A, w'.heap[x]? = w.heap[x]?) : Ring w' e A F :=
  ⟨h.nodup, (hb e (List.mem_cons_self ..)).trans h.ends, seg_kept (fun x hx => hb x (List.mem_cons_of_mem _ hx)) h.row⟩
/-- one of the frames, and its neighbours -/
theorem Ring.at (h : Ring w e (A1 ++ a :: A2) (F1 ++ f :: F2)) (hl : A1.length = F1.length) : Has w a 138 (frC f (A1.getLastD e) (A2.headD e)) := by
  obtain ⟨G1, G2, eq, h3, h4⟩ := seg_split h.row
  have hl2 := seg_len h3
  obtain ⟨e1, e2⟩ := List.append_inj eq (by omega)
  subst e1; subst e2
  obtain ⟨f2, r, e3, h5, h6⟩ := h4
  injection e3 with e4 e5
  subst e4; subst e5
  exact h5
theorem getLastD_snoc (A : List Nat) (z p : Nat) : (A ++ [z]).getLastD p = z := by
  induction A generalizing p with
  | nil => rfl
  | cons a A ih => rw [List.cons_append]; show List.getLastD (a :: (A ++ [z])) p = z; rw [List.getLastD_cons]; exact ih a
theorem getLastD_app (A B : List Nat) (p : Nat) : (A ++ B).getLastD p = B.getLastD (A.getLastD p) := by
  induction A generalizing p with
  | nil => rfl
  | cons a A ih => rw [List.cons_append, List.getLastD_cons, List.getLastD_cons]; exact ih a
theorem headD_app (A B : List Nat) (q : Nat) : (A ++ B).headD q = A.headD (B.headD q) := by cases A <;> rfl
theorem snoc_of (A : List Nat) : A = [] ∨ ∃ B z, A = B ++ [z] := by
  rcases List.eq_nil_or_concat A with h | ⟨B, z, h⟩
  · exact .inl h
  · exact .inr ⟨B, z, by rw [h, List.concat_eq_append]⟩
/-- a frame is taken out of the ring -/
theorem Ring.leave (h : Ring w e (A1 ++ a :: A2) (F1 ++ f :: F2)) (hl : A1.length = F1.length) :
    Ring ((w.setCell ⟨A1.getLastD e, 5, none⟩ (ptrB (A2.headD e))).setCell ⟨A2.headD e, 4, none⟩ (ptrB (A1.getLastD e))) e (A1 ++ A2) (F1 ++ F2) := by
  obtain ⟨G1, G2, eq, h3, h4⟩ := seg_split h.row
  have hl2 := seg_len h3
  obtain ⟨e1, e2⟩ := List.append_inj eq (by omega)
  subst e1; subst e2
  obtain ⟨f2, r, e3, h5, h6⟩ := h4
  injection e3 with e4 e5
  subst e4; subst e5
  have hnd := h.nodup
  rw [List.nodup_cons, List.nodup_append] at hnd
  obtain ⟨he, n1, n2, n3⟩ := hnd
  rw [List.nodup_cons] at n2
  have heA1 : e ∉ A1 := fun hm => he (List.mem_append_left _ hm)
  have heA2 : e ∉ A2 := fun hm => he (List.mem_append_right _ (List.mem_cons_of_mem _ hm))
  have hends := h.ends
  rw [getLastD_app, List.getLastD_cons, headD_app] at hends
  have hnd2 : (e :: (A1 ++ A2)).Nodup := by
    rw [List.nodup_cons, List.nodup_append]
    exact ⟨fun hm => (List.mem_append.1 hm).elim heA1 heA2, n1, n2.2, fun x hx y hy => n3 x hx y (List.mem_cons_of_mem _ hy)⟩
  rcases snoc_of A1 with rfl | ⟨B1, z, rfl⟩
  · rw [show F1 = [] from h3] at *
    rcases A2 with _ | ⟨b, A2⟩
    · rw [show F2 = [] from h6] at *
      exact ⟨hnd2, (hends.set 5 (ptrB e)).set 4 (ptrB e), rfl⟩
    · have hb : ¬ e = b := fun x => heA2 (x ▸ List.mem_cons_self ..)
      refine ⟨hnd2, ?_, ?_⟩
      · have := (hends.set 5 (ptrB b)).far (p := ⟨b, 4, none⟩) hb (ptrB e)
        rw [List.nil_append, List.getLastD_cons]
        rw [List.getLastD_cons] at this
        exact this
      · exact seg_prev e (seg_far h6 (y := ⟨e, 5, none⟩) heA2 (ptrB b)) (List.nodup_cons.1 n2.2).1
  · rw [getLastD_snoc] at *
    have hz : ¬ e = z := fun x => heA1 (x ▸ List.mem_append_right _ (List.mem_singleton.2 rfl))
    have hzB : z ∉ B1 := fun hm => by
      rw [List.nodup_append] at n1
      exact n1.2.2 z hm z (List.mem_singleton.2 rfl) rfl
    have hzA2 : z ∉ A2 := fun hm => n3 z (List.mem_append_right _ (List.mem_singleton.2 rfl)) z (List.mem_cons_of_mem _ hm) rfl
    rcases A2 with _ | ⟨b, A2⟩
    · rw [show F2 = [] from h6] at *
      refine ⟨hnd2, ?_, ?_⟩
      · have := (hends.far (p := ⟨z, 5, none⟩) hz (ptrB e)).set 4 (ptrB z)
        rw [List.append_nil, getLastD_snoc]
        rw [headD_app] at this ⊢
        exact this
      · rw [List.append_nil, List.append_nil]
        exact seg_far (seg_next e h3 hzB) (y := ⟨e, 4, none⟩) heA1 _
    · have hb : ¬ e = b := fun x => heA2 (x ▸ List.mem_cons_self ..)
      have hbB : b ∉ B1 ++ [z] := fun hm => n3 b hm b (List.mem_cons_of_mem _ (List.mem_cons_self ..)) rfl
      refine ⟨hnd2, ?_, ?_⟩
      · have := (hends.far (p := ⟨z, 5, none⟩) hz (ptrB b)).far (p := ⟨b, 4, none⟩) hb (ptrB z)
        rw [getLastD_app, getLastD_snoc, List.getLastD_cons, headD_app]
        rw [List.getLastD_cons, headD_app] at this
        have e6 : (B1.headD ([z].headD a)) = B1.headD ([z].headD ((b :: A2).headD e)) := by cases B1 <;> rfl
        rw [headD_app, ← e6]
        exact this
      · refine seg_join ?_ ?_
        · exact seg_far (seg_next b h3 hzB) (y := ⟨b, 4, none⟩) hbB _
        · rw [getLastD_snoc]
          exact seg_prev z (seg_far h6 (y := ⟨z, 5, none⟩) hzA2 (ptrB b)) (List.nodup_cons.1 n2.2).1
/-- a frame comes to the ring's end -/
theorem Ring.lastV (h : Ring w e A F) {va vb : Value} (ha : Has w a 138 #[.int .i64 f.n, .string f.s, .int .i64 f.pins, .bool f.dirty, va, vb]) (hea : a ∉ e :: A) :
    Ring ((((w.setCell ⟨a, 4, none⟩ (ptrB (A.getLastD e))).setCell ⟨a, 5, none⟩ (ptrB e)).setCell ⟨A.getLastD e, 5, none⟩ (ptrB a)).setCell ⟨e, 4, none⟩ (ptrB a)) e (A ++ [a]) (F ++ [f]) := by
  have hae : ¬ e = a := fun x => hea (x ▸ List.mem_cons_self ..)
  have haA : a ∉ A := fun hm => hea (List.mem_cons_of_mem _ hm)
  obtain ⟨heA, hnA⟩ := List.nodup_cons.1 h.nodup
  have hnd : (e :: (A ++ [a])).Nodup := by
    rw [List.nodup_cons, List.nodup_append]
    refine ⟨fun hm => (List.mem_append.1 hm).elim heA (fun h2 => hae (List.mem_singleton.1 h2)), hnA, by simp, fun u hu v hv => ?_⟩
    rw [List.mem_singleton.1 hv]
    exact fun x => haA (x ▸ hu)
  have h1 := (ha.set 4 (ptrB (A.getLastD e))).set 5 (ptrB e)
  have h2 := (h.ends.far (p := ⟨a, 4, none⟩) hae (ptrB (A.getLastD e))).far (p := ⟨a, 5, none⟩) hae (ptrB e)
  have h3 := seg_far (seg_far h.row (y := ⟨a, 4, none⟩) haA (ptrB (A.getLastD e))) (y := ⟨a, 5, none⟩) haA (ptrB e)
  rcases snoc_of A with rfl | ⟨B, z, rfl⟩
  · rw [show F = [] from h.row]
    exact ⟨hnd, (h2.set 5 (ptrB a)).set 4 (ptrB a), ⟨f, [], rfl, (h1.far (p := ⟨e, 5, none⟩) (Ne.symm hae) (ptrB a)).far (p := ⟨e, 4, none⟩) (Ne.symm hae) (ptrB a), rfl⟩⟩
  · rw [getLastD_snoc] at *
    have hza : ¬ a = z := fun x => haA (x ▸ List.mem_append_right _ (List.mem_singleton.2 rfl))
    have hze : ¬ e = z := fun x => heA (x ▸ List.mem_append_right _ (List.mem_singleton.2 rfl))
    have hzB : z ∉ B := fun hm => by
      rw [List.nodup_append] at hnA
      exact hnA.2.2 z hm z (List.mem_singleton.2 rfl) rfl
    refine ⟨hnd, ?_, ?_⟩
    · have := (h2.far (p := ⟨z, 5, none⟩) hze (ptrB a)).set 4 (ptrB a)
      rw [getLastD_snoc, headD_app, headD_app]
      rw [headD_app] at this
      exact this
    · refine seg_join (seg_far (seg_next a h3 hzB) (y := ⟨e, 4, none⟩) heA _) ?_
      rw [getLastD_snoc]
      exact ⟨f, [], rfl, (h1.far (p := ⟨z, 5, none⟩) hza (ptrB a)).far (p := ⟨e, 4, none⟩) (Ne.symm hae) (ptrB a), rfl⟩
end

end Go.Proofs.Ytjihboddejaelaa

/-
  CRC-32 as plain mathematics; one byte that is another one is told. No program in sight.
-/
namespace Go.Proofs.Ytjihboddejaelaa
set_option linter.unusedVariables false
set_option linter.unusedSimpArgs false
set_option linter.unusedVariables false
set_option linter.unusedSimpArgs false

/-- one bit -/
def crcBit (c : Nat) : Nat := if c % 2 = 1 then (c / 2) ^^^ 3988292384 else c / 2
def crcBits : Nat → Nat → Nat
  | 0, c => c
  | k + 1, c => crcBits k (crcBit c)
theorem crcBits_succ : ∀ (k c : Nat), crcBits (k + 1) c = crcBit (crcBits k c)
  | 0, _ => rfl
  | k + 1, c => by rw [crcBits, crcBits_succ k (crcBit c)]; rfl
def crcByte (c b : Nat) : Nat := crcBits 8 (c ^^^ b)
def crcGo (c : Nat) (l : List UInt8) : Nat := l.foldl (fun c b => crcByte c b.toNat) c
/-- the sum of bytes -/
def crcN (l : List UInt8) : Nat := 4294967295 - crcGo 4294967295 l

theorem crcBit_lt {c : Nat} (h : c < 4294967296) : crcBit c < 4294967296 := by
  unfold crcBit
  split
  · exact Nat.xor_lt_two_pow (n := 32) (by omega) (by omega)
  · omega
theorem crcBits_lt : ∀ (k : Nat) {c : Nat}, c < 4294967296 → crcBits k c < 4294967296
  | 0, _, h => h
  | k + 1, _, h => crcBits_lt k (crcBit_lt h)
theorem crcByte_lt {c b : Nat} (h : c < 4294967296) (hb : b < 256) : crcByte c b < 4294967296 := crcBits_lt 8 (Nat.xor_lt_two_pow (n := 32) (by omega) (by omega))
theorem crcGo_lt : ∀ (l : List UInt8) {c : Nat}, c < 4294967296 → crcGo c l < 4294967296
  | [], _, h => h
  | b :: l, _, h => crcGo_lt l (crcByte_lt h (by have := b.toNat_lt; omega))
theorem crcGo_snoc (c : Nat) (l : List UInt8) (b : UInt8) : crcGo c (l ++ [b]) = crcByte (crcGo c l) b.toNat := by simp [crcGo]
theorem crcGo_cons (c : Nat) (l : List UInt8) (b : UInt8) : crcGo c (b :: l) = crcGo (crcByte c b.toNat) l := rfl
theorem crcGo_append (c : Nat) (l m : List UInt8) : crcGo c (l ++ m) = crcGo (crcGo c l) m := by simp [crcGo]
theorem crcN_lt (l : List UInt8) : crcN l < 4294967296 := by unfold crcN; omega

theorem xor_cancel {a b p : Nat} (h : a ^^^ p = b ^^^ p) : a = b := by
  have := congrArg (· ^^^ p) h
  simpa [Nat.xor_assoc] using this
theorem poly_top {x : Nat} (hx : x < 2147483648) : 2147483648 ≤ x ^^^ 3988292384 := by
  have h1 : (x ^^^ 3988292384).testBit 31 = true := by
    rw [Nat.testBit_xor, Nat.testBit_lt_two_pow (by omega)]; decide
  rcases Nat.lt_or_ge (x ^^^ 3988292384) 2147483648 with h | h
  · rw [Nat.testBit_lt_two_pow (by omega)] at h1; cases h1
  · exact h
theorem crcBit_inj {a b : Nat} (ha : a < 4294967296) (hb : b < 4294967296) (h : crcBit a = crcBit b) : a = b := by
  unfold crcBit at h
  split at h <;> split at h
  · have := xor_cancel h; omega
  · have := poly_top (x := a / 2) (by omega); omega
  · have := poly_top (x := b / 2) (by omega); omega
  · omega
theorem crcBits_inj : ∀ (k : Nat) {a b : Nat}, a < 4294967296 → b < 4294967296 → crcBits k a = crcBits k b → a = b
  | 0, _, _, _, _, h => h
  | k + 1, _, _, ha, hb, h => crcBit_inj ha hb (crcBits_inj k (crcBit_lt ha) (crcBit_lt hb) h)
theorem xor_lt32 {c b : Nat} (h : c < 4294967296) (hb : b < 256) : c ^^^ b < 4294967296 := Nat.xor_lt_two_pow (n := 32) (by omega) (by omega)
theorem crcByte_inj_left {a b x : Nat} (ha : a < 4294967296) (hb : b < 4294967296) (hx : x < 256) (h : crcByte a x = crcByte b x) : a = b :=
  xor_cancel (crcBits_inj 8 (xor_lt32 ha hx) (xor_lt32 hb hx) h)
theorem crcByte_inj_right {a x y : Nat} (ha : a < 4294967296) (hx : x < 256) (hy : y < 256) (h : crcByte a x = crcByte a y) : x = y := by
  have := crcBits_inj 8 (xor_lt32 ha hx) (xor_lt32 ha hy) h
  rw [Nat.xor_comm a x, Nat.xor_comm a y] at this
  exact xor_cancel this
theorem crcGo_inj : ∀ (l : List UInt8) {a b : Nat}, a < 4294967296 → b < 4294967296 → crcGo a l = crcGo b l → a = b
  | [], _, _, _, _, h => h
  | x :: l, _, _, ha, hb, h => crcByte_inj_left ha hb (by have := x.toNat_lt; omega) (crcGo_inj l (crcByte_lt ha (by have := x.toNat_lt; omega)) (crcByte_lt hb (by have := x.toNat_lt; omega)) h)
/-- a byte that is another one is told -/
theorem crcN_told {l : List UInt8} {i : Nat} (hi : i < l.length) {y : UInt8} (h : y ≠ l[i]) : crcN (l.set i y) ≠ crcN l := by
  intro e
  have e1 : l = l.take i ++ l[i] :: l.drop (i + 1) := by rw [← List.drop_eq_getElem_cons hi, List.take_append_drop]
  have e2 : l.set i y = l.take i ++ y :: l.drop (i + 1) := by rw [List.set_eq_take_append_cons_drop, if_pos hi]
  have lt0 := crcGo_lt l (c := 4294967295) (by omega)
  have lt1 := crcGo_lt (l.set i y) (c := 4294967295) (by omega)
  have e3 : crcGo 4294967295 (l.set i y) = crcGo 4294967295 l := by unfold crcN at e; omega
  rw [e2, crcGo_append, crcGo_cons] at e3
  conv at e3 => rhs; rw [e1, crcGo_append, crcGo_cons]
  have lt2 := crcGo_lt (l.take i) (c := 4294967295) (by omega)
  have hy : y.toNat < 256 := by have := y.toNat_lt; omega
  have hz : l[i].toNat < 256 := by have := l[i].toNat_lt; omega
  have := crcByte_inj_right lt2 hy hz (crcGo_inj _ (crcByte_lt lt2 hy) (crcByte_lt lt2 hz) e3)
  exact h (UInt8.toNat_inj.1 this)

end Go.Proofs.Ytjihboddejaelaa

/-
  Sums and sizes of pages: page.Sum, page.Used, two, four; the reference's Sum.
-/
namespace Go.Proofs.Ytjihboddejaelaa
set_option linter.unusedVariables false
set_option linter.unusedSimpArgs false
open Go.RowKit
open Go.BigFrame
set_option linter.unusedVariables false

theorem and_one {c : Nat} (h : c < 4294967296) : bits .and .u32 (c : Int) 1 = ((c % 2 : Nat) : Int) := by
  have := u32_and_nat c 1 h (by omega)
  rw [nat_mask1] at this
  exact this
theorem xor_poly {c : Nat} (h : c < 4294967296) : bits .xor .u32 (c : Int) 3988292384 = ((c ^^^ 3988292384 : Nat) : Int) := u32_xor_nat c 3988292384 h (by omega)
theorem xor_byte {c b : Nat} (h : c < 4294967296) (hb : b < 256) : bits .xor .u32 (c : Int) ((b : Int) % 4294967296) = ((c ^^^ b : Nat) : Int) := by
  rw [show (b : Int) % 4294967296 = (b : Int) by omega]; exact u32_xor_nat c b h (by omega)

theorem crc_odd {e : Nat} (he : e < 4294967296) (ho : e % 2 = 1) : bits .xor .u32 ((e : Int) / 2) 3988292384 = ((crcBit e : Nat) : Int) := by
  rw [show ((e : Int) / 2) = ((e / 2 : Nat) : Int) by omega, xor_poly (by omega), crcBit, if_pos ho]
theorem crc_even {e : Nat} (ho : ¬ e % 2 = 1) : ((e : Int) / 2) = ((crcBit e : Nat) : Int) := by
  rw [crcBit, if_neg ho]; omega
theorem crc_step {s : ByteArray} {i c d k e : Nat} (h1 : i < s.size) (hx : c = crcGo 4294967295 (s.data.toList.take i)) (hd : c ^^^ s[i].toNat = d) (he : e = crcBits k d) (hk : k = 8) : e = crcGo 4294967295 (s.data.toList.take (i + 1)) := by
  subst hk
  rw [List.take_succ_eq_append_getElem (by simpa using h1), crcGo_snoc, ← hx, he, ← hd]; rfl
theorem xor_ones {c : Nat} (h : c < 4294967296) : 4294967295 ^^^ c = 4294967295 - c := by
  have h1 : (BitVec.ofNat 32 c ^^^ BitVec.allOnes 32).toNat = (~~~ BitVec.ofNat 32 c).toNat := by rw [BitVec.xor_allOnes]
  rw [BitVec.toNat_xor, BitVec.toNat_not, BitVec.toNat_allOnes, BitVec.toNat_ofNat, Nat.mod_eq_of_lt (show c < 2 ^ 32 by omega), Nat.xor_comm] at h1
  exact h1
theorem u32_not {c : Nat} (h : c < 4294967296) : bits .xor .u32 IntKind.u32.max (c : Int) = ((4294967295 - c : Nat) : Int) := by
  have := u32_xor_nat 4294967295 c (by omega) h
  rw [xor_ones h] at this
  exact this

set_option maxHeartbeats 1600000 in
theorem page_Sum (s : ByteArray) (w : World) (hs : s.size ≤ 9223372036854775807) :
    Calls Try.prog 116 #[.string s] w fun e w' => e = .returned (.int .u32 (crcN s.data.toList : Nat)) ∧ w = w' := by
  go_enter Try.func116, Try.ntmps116
  go_wp2_with fail
  go_loop [3, 4] (fun v3 v4 => ∃ i c : Nat, i ≤ s.size ∧ c < 4294967296 ∧ v3 = .int .u32 c ∧ v4 = .int .i64 i ∧ c = crcGo 4294967295 (s.data.toList.take i)) (fun _ v4 => s.size - (intOf v4).toNat)
  case atStart => exact ⟨0, 4294967295, Nat.zero_le _, by omega, rfl, rfl, rfl⟩
  case round =>
    obtain ⟨i, c, hi, hc, rfl, rfl, hx⟩ := hrel
    have HX := Lib.hid hx; clear hx
    by_cases h1 : i < s.size
    · have x1 := xor_byte hc (byte_lt s[i])
      have hx2 : c ^^^ s[i].toNat < 4294967296 := xor_lt32 hc (byte_lt s[i])
      obtain ⟨d, hd⟩ : ∃ d, c ^^^ s[i].toNat = d := ⟨_, rfl⟩
      rw [hd] at x1 hx2
      have HD := Lib.hid hd; clear hd
      obtain ⟨wo, rfl⟩ : ∃ wo : World, wo = w := ⟨_, rfl⟩
      go_wp2_with fail
      go_loop [3, 17] (fun v3 v17 => ∃ k e : Nat, k ≤ 8 ∧ e < 4294967296 ∧ v3 = .int .u32 e ∧ v17 = .int .i64 k ∧ e = crcBits k d) (fun _ v17 => 8 - (intOf v17).toNat)
      case atStart => exact ⟨0, d, by omega, hx2, rfl, rfl, rfl⟩
      case round =>
        obtain ⟨k, e, hk, he, rfl, rfl, hy⟩ := hrel
        have HY := Lib.hid hy; clear hy
        by_cases hk8 : k < 8
        · by_cases ho : e % 2 = 1
          · have a1 : bits .and .u32 (e : Int) 1 = 1 := by rw [and_one he, ho]; rfl
            have HO := Lib.hid ho; clear ho
            have a2 := crc_odd he HO.out
            go_wp2_with fail
            go_round
            case rel => exact ⟨k + 1, _, by omega, crcBit_lt he, rfl, by simp, by rw [HY.out, crcBits_succ]⟩
            case measure => simp [intOf]; omega
          · have a1 : bits .and .u32 (e : Int) 1 = 0 := by rw [and_one he, show e % 2 = 0 by omega]; rfl
            have HO := Lib.hid ho; clear ho
            go_wp2_with fail
            go_round
            case rel => exact ⟨k + 1, _, by omega, crcBit_lt he, by rw [crc_even HO.out], by simp, by rw [HY.out, crcBits_succ]⟩
            case measure => simp [intOf]; omega
        · have ST := Lib.hid (crc_step h1 HX.out HD.out HY.out (by omega))
          go_wp2_with fail
          go_round
          case rel => exact ⟨i + 1, e, by omega, he, rfl, by simp, ST.out⟩
          case measure => simp [intOf]; omega
    · obtain rfl : i = s.size := by omega
      have T : crcGo 4294967295 (s.data.toList.take s.size) = crcGo 4294967295 s.data.toList := by rw [List.take_of_length_le (by simp)]
      have E := Lib.hid (show bits .xor .u32 IntKind.u32.max (c : Int) = ((crcN s.data.toList : Nat) : Int) by rw [u32_not hc, HX.out, T]; rfl)
      clear T
      go_wp2_with fail
      go_ret
      exact ⟨ret_int E.out, rfl⟩

end Go.Proofs.Ytjihboddejaelaa

/-
  two and four of page.
-/
namespace Go.Proofs.Ytjihboddejaelaa
set_option linter.unusedVariables false
set_option linter.unusedSimpArgs false
open Go.RowKit
open Go.BigFrame
set_option linter.unusedVariables false

set_option maxHeartbeats 400000 in
theorem page_two (n : Nat) (hn : n ≤ 9223372036854775807) (w : World) : Calls Try.prog 114 #[.int .i64 n] w fun e w' => ∃ g, e = .returned (.slice (some ⟨g, 0, none⟩) 2 2) ∧ Has w' g 5 (u8s (beK n 2)).toArray ∧ Below w.heap.size w w' ∧ w.heap.size ≤ g := by
  have E := Lib.hid (show u8s (beK n 2) = [.int .u8 ((n : Int) / 256 % 256), .int .u8 ((n : Int) % 256)] by
    rw [beK_two]; simp only [u8s, u8v, List.map_cons, List.map_nil, toNat_ofNat8]; rw [show ((n / 256 : Nat) : Int) = (n : Int) / 256 by omega])
  go_enter Try.func114, Try.ntmps114
  go_wp2
  go_ret
  refine ⟨_, rfl, ?_, (Below.refl _ _).alloc (Nat.le_refl _) _, Nat.le_refl _⟩
  rw [E.out]
  exact Has.new w _ _

set_option maxRecDepth 100000 in
set_option maxHeartbeats 400000 in
theorem page_four (n : Nat) (hn : n ≤ 4294967295) (w : World) : Calls Try.prog 115 #[.int .i64 n] w (BytesPost w (beK n 4)) := by
  obtain ⟨i0, hi, hz0, hz1, hz2⟩ := info_parts infoByte
  have t1 := fun w1 => page_two (n / 65536) (by omega) w1
  rw [show ((n / 65536 : Nat) : Int) = (n : Int) / 65536 by omega] at t1
  have T1 := Lib.hid t1; clear t1
  have T2 := Lib.hid (fun w1 => page_two n (by omega) w1)
  have F4 := Lib.hid (beK_four n)
  have g1 : 2 + 2 ≤ maxLen := by unfold maxLen; omega
  go_enter Try.func115, Try.ntmps115
  go_wp2_with (first | (go_at_call 114; (with_reducible refine (T1.out _).mono ?_); rintro e1 w1 ⟨ga, rfl, ha, hb1, hl1⟩; have HA := Lib.hid ha; clear ha) | (go_at_call 114; (with_reducible refine (T2.out _).mono ?_); rintro e2 w2 ⟨gb, rfl, hb, hb2, hl2⟩; have HA2 := Lib.hid (HA.out.belowS hb2); have HBB := Lib.hid hb; clear hb) | (at_builtin; go_loud (refine wpList_append_full rfl (.tmp 5) (.tmp 7) 81 81 rfl w.heap.size 5 i0 _ 1 1 Try.underlying81 hi hz0 hz1 hz2 rfl ga 2 (u8s (beK (n / 65536) 2)) rfl (HA2.out.own hl1 rfl (by unfold maxLen; omega)) (.slice (some ⟨gb, 0, none⟩) 2 2) 2 (u8s (beK n 2)) rfl ((BS.of_has HBB.out).src Try.underlying81) g1 (by omega) (Nat.le_trans hb1.size hb2.size) ?_); intro A4 c4 w3 hown hb3; have HO := Lib.hid hown; clear hown))
  go_ret
  obtain ⟨A5, c5, e5, _, h5⟩ := BS.of_own (l := beK n 4) (n := 4) (by rw [F4.out, u8s_append]; exact HO.out)
  cases e5
  refine ⟨A4, c4, by show _ = Ending.returned (.slice A4 (beK n 4).length c4); rw [beK_len]; rfl, by rw [beK_len]; exact h5, bel_step (bel_step hb1 hb2 hb1.size) hb3 (Nat.le_trans hb1.size hb2.size)⟩

end Go.Proofs.Ytjihboddejaelaa

/-
  Pages as bytes, in plain Lean: what Seal makes; what is spliced into a page of zeros. No program in sight.
-/
namespace Go.Proofs.Ytjihboddejaelaa
set_option linter.unusedVariables false
set_option linter.unusedSimpArgs false
open Go.RowKit

/-- how many bytes cells take -/
def usedN (cs : List ByteArray) : Nat := (cs.map fun c => 4 + c.size).sum
theorem usedN_nil : usedN [] = 0 := rfl
theorem usedN_snoc (cs : List ByteArray) (c : ByteArray) : usedN (cs ++ [c]) = usedN cs + (4 + c.size) := by simp [usedN]
theorem usedN_append (a b : List ByteArray) : usedN (a ++ b) = usedN a + usedN b := by simp [usedN]
theorem usedN_take_le (cs : List ByteArray) (i : Nat) : usedN (cs.take i) ≤ usedN cs := by
  have h := usedN_append (cs.take i) (cs.drop i)
  rw [List.take_append_drop] at h
  omega
theorem usedN_take (cs : List ByteArray) {i : Nat} (h : i < cs.length) : usedN (cs.take (i + 1)) = usedN (cs.take i) + (4 + cs[i].size) := by
  rw [List.take_succ_eq_append_getElem h, usedN_snoc]
/-- what the cells themselves take, their lengths with them -/
def bodyN (cs : List ByteArray) : Nat := (cs.map fun c => 2 + c.size).sum
theorem bodyN_snoc (cs : List ByteArray) (c : ByteArray) : bodyN (cs ++ [c]) = bodyN cs + (2 + c.size) := by simp [bodyN]
theorem bodyN_take (cs : List ByteArray) {i : Nat} (h : i < cs.length) : bodyN (cs.take (i + 1)) = bodyN (cs.take i) + (2 + cs[i].size) := by
  rw [List.take_succ_eq_append_getElem h, bodyN_snoc]
theorem used_body (cs : List ByteArray) : usedN cs = bodyN cs + 2 * cs.length := by
  induction cs with
  | nil => rfl
  | cons c cs ih => simp only [usedN, bodyN, List.map_cons, List.sum_cons, List.length_cons] at *; omega
/-- the cells, the first at the end -/
def bodyL : List ByteArray → List UInt8
  | [] => []
  | c :: cs => bodyL cs ++ (beK c.size 2 ++ c.data.toList)
theorem bodyL_snoc (cs : List ByteArray) (c : ByteArray) : bodyL (cs ++ [c]) = beK c.size 2 ++ c.data.toList ++ bodyL cs := by
  induction cs with
  | nil => simp [bodyL]
  | cons d cs ih => rw [List.cons_append, bodyL, ih, bodyL]; simp
theorem bodyL_len (cs : List ByteArray) : (bodyL cs).length = bodyN cs := by
  induction cs with
  | nil => rfl
  | cons c cs ih => simp only [bodyL, List.length_append, ih, beK_len, bodyN, List.map_cons, List.sum_cons, Array.length_toList]; rw [show c.data.size = c.size from rfl]; omega
/-- where the cells lie -/
def offsL (cs : List ByteArray) : Nat → List UInt8
  | 0 => []
  | i + 1 => offsL cs i ++ beK (1024 - bodyN (cs.take (i + 1))) 2
theorem offsL_len (cs : List ByteArray) : ∀ i, (offsL cs i).length = 2 * i
  | 0 => rfl
  | i + 1 => by rw [offsL, List.length_append, offsL_len cs i, beK_len]; omega
/-- behind the sum: the page of the first i cells, with as many zeros as are wanted for 1020 bytes -/
def headL (k l n : Nat) : List UInt8 := [UInt8.ofNat k, 0] ++ beK n 2 ++ beK l 4
theorem headL_len (k l n : Nat) : (headL k l n).length = 8 := by simp [headL, beK_len]
def midL (k l : Nat) (cs : List ByteArray) (i : Nat) : List UInt8 := headL k l cs.length ++ offsL cs i ++ List.replicate (1012 - 2 * i - bodyN (cs.take i)) 0 ++ bodyL (cs.take i)
theorem body_le {cs : List ByteArray} (h : usedN cs ≤ 1012) (i : Nat) (hi : i ≤ cs.length) : bodyN (cs.take i) + 2 * i ≤ 1012 := by
  have := used_body (cs.take i)
  have h2 := usedN_take_le cs i
  rw [List.length_take, Nat.min_eq_left hi] at this
  omega
theorem midL_len {k l : Nat} {cs : List ByteArray} (h : usedN cs ≤ 1012) {i : Nat} (hi : i ≤ cs.length) : (midL k l cs i).length = 1020 := by
  have := body_le h i hi
  simp only [midL, List.length_append, headL_len, offsL_len, List.length_replicate, bodyL_len]
  omega
/-- the bytes of a page -/
def sealL (k l : Nat) (cs : List ByteArray) : List UInt8 := beK (crcN (midL k l cs cs.length)) 4 ++ midL k l cs cs.length
theorem sealL_len {k l : Nat} {cs : List ByteArray} (h : usedN cs ≤ 1012) : (sealL k l cs).length = 1024 := by
  simp only [sealL, List.length_append, beK_len, midL_len h (Nat.le_refl _)]

section
variable {α : Type}
theorem splice_at (a m b x : List α) (hx : x.length = m.length) : splice (a ++ m ++ b) a.length x = a ++ x ++ b := by
  unfold splice
  have e1 : (a ++ m ++ b).take a.length = a := by rw [List.append_assoc, List.take_left]
  have e2 : (a ++ m ++ b).drop (a.length + x.length) = b := by rw [hx, ← List.length_append, List.drop_left]
  rw [e1, e2, List.append_assoc]
theorem splice_at' {a m b x : List α} {o : Nat} (ho : a.length = o) (hx : x.length = m.length) : splice (a ++ m ++ b) o x = a ++ x ++ b := by
  subst ho; exact splice_at a m b x hx
theorem splice_len (L : List α) (o : Nat) (x : List α) (h : o + x.length ≤ L.length) : (splice L o x).length = L.length := length_splice L o x h
theorem splice_zero (L : List α) (o : Nat) : splice L o [] = L := by simp [splice]
end
/-- a page under way: four places for the sum, then the bytes of the first i cells -/
def pageL (k l : Nat) (cs : List ByteArray) (i : Nat) : List UInt8 := [0, 0, 0, 0] ++ midL k l cs i
theorem pageL_start (k l : Nat) (cs : List ByteArray) : splice (splice ((List.replicate 1024 (0 : UInt8)).set 4 (UInt8.ofNat k)) 6 (beK cs.length 2)) 8 (beK l 4) = pageL k l cs 0 := by
  have e1 : (List.replicate 1024 (0 : UInt8)).set 4 (UInt8.ofNat k) = [0, 0, 0, 0, UInt8.ofNat k, 0] ++ [0, 0] ++ List.replicate 1016 0 := by
    rw [show (1024 : Nat) = 5 + 1019 from rfl, ← List.replicate_append_replicate]
    rw [show (1019 : Nat) = 3 + 1016 from rfl, ← List.replicate_append_replicate]
    rfl
  rw [e1, show (6 : Nat) = ([0, 0, 0, 0, UInt8.ofNat k, 0] : List UInt8).length from rfl, splice_at _ _ _ _ (by rw [beK_len]; rfl)]
  have e2 : (List.replicate 1016 (0 : UInt8)) = [0, 0, 0, 0] ++ List.replicate 1012 0 := by
    rw [show (1016 : Nat) = 4 + 1012 from rfl, ← List.replicate_append_replicate]; rfl
  rw [e2, ← List.append_assoc, show (8 : Nat) = ([0, 0, 0, 0, UInt8.ofNat k, 0] ++ beK cs.length 2 : List UInt8).length by simp [beK_len], splice_at _ _ _ _ (by rw [beK_len]; rfl)]
  have e3 : 1012 - 2 * 0 - bodyN (cs.take 0) = 1012 := rfl
  simp only [pageL, midL, headL, offsL, e3, List.take_zero, bodyL, List.append_nil, List.append_assoc]
  rfl
/-- one cell more -/
theorem pageL_step {k l : Nat} {cs : List ByteArray} (h : usedN cs ≤ 1012) {i : Nat} (hi : i < cs.length) :
    splice (splice (splice (pageL k l cs i) (12 + 2 * i) (beK (1024 - bodyN (cs.take (i + 1))) 2)) (1024 - bodyN (cs.take (i + 1))) (beK cs[i].size 2)) (1024 - bodyN (cs.take (i + 1)) + 2) cs[i].data.toList = pageL k l cs (i + 1) := by
  have b1 := body_le h (i + 1) (by omega)
  have b2 := bodyN_take cs hi
  have hb : bodyL (cs.take (i + 1)) = beK cs[i].size 2 ++ cs[i].data.toList ++ bodyL (cs.take i) := by rw [List.take_succ_eq_append_getElem hi, bodyL_snoc]
  have hbl := bodyL_len (cs.take i)
  have hcl : cs[i].data.toList.length = cs[i].size := by simp
  generalize hB : bodyN (cs.take (i + 1)) = B at *
  generalize hb0 : bodyN (cs.take i) = b0 at *
  generalize hc : cs[i].size = m at *
  generalize hd : cs[i].data.toList = d at *
  have ez : 1012 - 2 * i - b0 = 2 + (1012 - 2 * (i + 1) - B) + 2 + m := by omega
  obtain ⟨P, hP⟩ : ∃ P : List UInt8, [0, 0, 0, 0] ++ headL k l cs.length ++ offsL cs i = P := ⟨_, rfl⟩
  obtain ⟨Z, hZ⟩ : ∃ Z : List UInt8, List.replicate (1012 - 2 * (i + 1) - B) 0 = Z := ⟨_, rfl⟩
  have e0 : pageL k l cs i = P ++ [0, 0] ++ (Z ++ ([0, 0] ++ (List.replicate m 0 ++ bodyL (cs.take i)))) := by
    rw [← hP, ← hZ]
    simp only [pageL, midL, hb0, ez, ← List.replicate_append_replicate, List.append_assoc]
    rfl
  have l1 : P.length = 12 + 2 * i := by rw [← hP]; simp only [List.length_append, headL_len, offsL_len]; rfl
  have lz : Z.length = 1012 - 2 * (i + 1) - B := by rw [← hZ, List.length_replicate]
  have s1 : splice (P ++ [0, 0] ++ (Z ++ ([0, 0] ++ (List.replicate m 0 ++ bodyL (cs.take i))))) (12 + 2 * i) (beK (1024 - B) 2) = (P ++ beK (1024 - B) 2 ++ Z) ++ [0, 0] ++ (List.replicate m 0 ++ bodyL (cs.take i)) := by
    rw [splice_at' l1 (by rw [beK_len]; rfl)]; simp only [List.append_assoc]
  have l2 : (P ++ beK (1024 - B) 2 ++ Z).length = 1024 - B := by rw [List.length_append, List.length_append, l1, beK_len, lz]; omega
  have s2 : splice ((P ++ beK (1024 - B) 2 ++ Z) ++ [0, 0] ++ (List.replicate m 0 ++ bodyL (cs.take i))) (1024 - B) (beK m 2) = (P ++ beK (1024 - B) 2 ++ Z ++ beK m 2) ++ List.replicate m 0 ++ bodyL (cs.take i) := by
    rw [splice_at' l2 (by rw [beK_len]; rfl)]; simp only [List.append_assoc]
  have l3 : (P ++ beK (1024 - B) 2 ++ Z ++ beK m 2).length = 1024 - B + 2 := by rw [List.length_append, l2, beK_len]
  have s3 : splice ((P ++ beK (1024 - B) 2 ++ Z ++ beK m 2) ++ List.replicate m 0 ++ bodyL (cs.take i)) (1024 - B + 2) d = (P ++ beK (1024 - B) 2 ++ Z ++ beK m 2) ++ d ++ bodyL (cs.take i) := by
    rw [splice_at' l3 (by rw [hcl, List.length_replicate])]
  rw [e0, s1, s2, s3, ← hP, ← hZ]
  simp only [pageL, midL, hB, offsL, hb, List.append_assoc]
theorem pageL_sum {k l : Nat} {cs : List ByteArray} : splice (pageL k l cs cs.length) 0 (beK (crcN (midL k l cs cs.length)) 4) = sealL k l cs := by
  have := splice_at [] [0, 0, 0, 0] (midL k l cs cs.length) (beK (crcN (midL k l cs cs.length)) 4) (by rw [beK_len]; rfl)
  simpa [pageL, sealL] using this
theorem pageL_drop (k l : Nat) (cs : List ByteArray) (i : Nat) : (pageL k l cs i).drop 4 = midL k l cs i := rfl
theorem pageL_len {k l : Nat} {cs : List ByteArray} (h : usedN cs ≤ 1012) {i : Nat} (hi : i ≤ cs.length) : (pageL k l cs i).length = 1024 := by
  simp only [pageL, List.length_append, midL_len h hi]; rfl

end Go.Proofs.Ytjihboddejaelaa
