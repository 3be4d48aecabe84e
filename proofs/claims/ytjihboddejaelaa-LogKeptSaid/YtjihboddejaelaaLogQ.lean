/-
  Commit, Checkpoint and Open in plain Lean: what is kept; as the cells tell it. No program in sight.
-/
import Derived.Test.YtjihboddejaelaaLogP
import Derived.Test.YtjihboddejaelaaLog11
namespace Go.Proofs.Ytjihboddejaelaa
open Go.RowKit
set_option linter.unusedVariables false
set_option linter.unusedSimpArgs false

theorem put1_ok (L : Lg) {D : Dk} (h : D.ok) (m : Nat) : (L.put1 D m).ok ∧ (L.put1 D m).seen 1 = D.seen 1 := by
  unfold Lg.put1
  split
  · refine ⟨Dk.write_ok h _ _ _, ?_⟩
    have := write_seen D 0 (1024 * m) (((L.fs[lastAt L.fs m - 1]?).map (·.text)).getD ⟨#[]⟩) 1
    rw [if_neg (fun h3 => by omega)] at this
    exact this
  · exact ⟨h, rfl⟩
theorem puts_ok (L : Lg) : ∀ (k m : Nat) (D : Dk), D.ok → (L.puts k m D).1.ok ∧ (L.puts k m D).1.seen 1 = D.seen 1
  | 0, m, D, h => ⟨h, rfl⟩
  | k + 1, m, D, h => by
    obtain ⟨h1, h2⟩ := put1_ok L h m
    rw [Lg.puts]
    split
    · obtain ⟨h3, h4⟩ := puts_ok L k (m + 1) _ h1
      exact ⟨h3, h4.trans h2⟩
    · exact ⟨h1, h2⟩
theorem check3_ok {L : Lg} (h : L.ok) {D : Dk} (hD : D.ok) (hs : D.seen 1 = L.D.seen 1) : (L.check3 D).1.ok := by
  unfold Lg.check3
  have c1 : (D.cutD 0 (1024 * L.pages : Nat)).ok := Dk.cut_ok hD _ _
  have c2 : (D.cutD 0 (1024 * L.pages : Nat)).seen 1 = L.D.seen 1 := (cut_seen D 0 (1024 * L.pages) 1 (by omega)).trans hs
  have c3 : ((D.cutD 0 (1024 * L.pages : Nat)).sync 0).seen 1 = L.D.seen 1 := (sync_seen _ 0 (by omega) 1 (by omega)).trans c2
  split
  · exact h.same c1 c2
  · split
    · exact h.same (Dk.sync_ok c1 0) c3
    · have hM := h.same (Dk.sync_ok c1 0) c3
      have hT := hM.tell (f := 0) (p := L.pages) (Nat.zero_le _) h.pages
      simp only
      split
      · exact ⟨hT.disk, (fun f hf => by cases hf), (fun i f hf => by simp at hf), .inr rfl, by
          rename_i he
          have : (({ L with D := (D.cutD 0 (1024 * L.pages : Nat)).sync 0 } : Lg).tell 0 L.pages).kept = 0 := by
            unfold Lg.tellE at he
            unfold Lg.tell
            split
            · rename_i h1; rw [if_pos h1] at he; cases he
            · rename_i h1
              rw [if_neg h1] at he
              split
              · rename_i h2; unfold Dk.turnE at he; rw [if_pos h2] at he; cases he
              · rfl
          rw [this]; exact Nat.zero_le _, hT.pages, hT.slot, hT.number⟩
      · exact hT
theorem checkpoint_ok {L : Lg} (h : L.ok) : L.checkpoint.1.ok := by
  unfold Lg.checkpoint
  obtain ⟨h1, h2⟩ := puts_ok L L.pages 0 L.D h.disk
  split
  · exact h
  · split
    · exact h
    · split
      · exact h.same h1 h2
      · exact check3_ok h h1 h2

/-- a slot that tells something -/
theorem slotOf_good {l : List UInt8} {k : Nat} (h : (slotOf l k).1 ≠ 0) : (slotOf l k).1 ≤ 3 ∧ ((slotOf l k).2.1 = 0 ∨ 64 + 1028 * (slotOf l k).2.1 ≤ l.length) ∧ (slotOf l k).2.2 < 4294967296 := by
  unfold slotOf at h ⊢
  split at h
  · exact absurd rfl h
  · rename_i h1
    rw [if_neg h1]
    simp only at h ⊢
    split at h
    · exact absurd rfl h
    · rename_i h2
      rw [if_neg h2]
      dsimp only
      refine ⟨?_, ?_, ?_⟩
      · exact Classical.byContradiction fun h3 => h2 (.inr (.inl (by omega)))
      · exact Classical.byContradiction fun h3 => h2 (.inr (.inr (by omega)))
      · exact unK_lt 4 _ (by rw [partL_len, partL_len]; omega)
theorem slotIx_good {l : List UInt8} (h : slotIx l ≠ 2) : slotIx l < 2 ∧ (slotOf l (slotIx l)).1 ≠ 0 ∧ l.take 16 = markL := by
  unfold slotIx at h ⊢
  split at h
  · exact absurd rfl h
  · rename_i h1
    rw [if_neg h1]
    have hm : l.take 16 = markL := Classical.byContradiction fun h3 => h1 (.inl h3)
    split
    · rename_i h2
      refine ⟨by omega, fun h3 => ?_, hm⟩
      rcases h2 with h2 | h2
      · exact h1 (.inr ⟨h2, h3⟩)
      · exact h2.1 h3
    · rename_i h2
      exact ⟨by omega, fun h3 => h2 (.inl h3), hm⟩
theorem framesOf_get (l : List UInt8) (f i : Nat) (g : Fr) (h : (framesOf l f)[i]? = some g) : i < f ∧ g = frameAt l i := by
  unfold framesOf at h
  rw [List.getElem?_map, Option.map_eq_some_iff] at h
  obtain ⟨j, hj, rfl⟩ := h
  have hl := (List.getElem?_eq_some_iff.1 hj).1
  rw [List.length_range] at hl
  rw [List.getElem?_range hl] at hj
  cases hj
  exact ⟨hl, rfl⟩
theorem framesOf_len (l : List UInt8) (f : Nat) : (framesOf l f).length = f := by unfold framesOf; rw [List.length_map, List.length_range]
theorem framesOf_succ (l : List UInt8) (f : Nat) : framesOf l (f + 1) = framesOf l f ++ [frameAt l f] := by unfold framesOf; rw [List.range_succ, List.map_append]; rfl
theorem frameAt_good {l : List UInt8} {f i : Nat} (h : 64 + 1028 * f ≤ l.length) (hi : i < f) : (frameAt l i).n < 4294967296 ∧ (frameAt l i).text.size = 1024 ∧ partL l (64 + 1028 * i) 1028 = (frameAt l i).bytes := by
  refine ⟨unK_lt 4 _ (by rw [partL_len]; omega), by unfold frameAt; rw [bsOf_size, partL_len]; omega, ?_⟩
  unfold Fr.bytes frameAt
  rw [bsOf_list, beK_unK _ 4 (by rw [partL_len]; omega)]
  refine List.ext_getElem? fun j => ?_
  rw [partL_get]
  have e4 : (partL l (64 + 1028 * i) 4).length = 4 := by rw [partL_len]; omega
  by_cases h4 : j < 4
  · rw [if_pos (by omega), List.getElem?_append_left (by omega), partL_get, if_pos h4]
  · rw [List.getElem?_append_right (by omega), e4, partL_get]
    by_cases h5 : j < 1028
    · rw [if_pos h5, if_pos (by omega)]; congr 1; omega
    · rw [if_neg h5, if_neg (by omega)]
set_option maxRecDepth 100000 in
theorem opened_ok {D : Dk} (h : D.ok) : (Lg.opened D).ok := by
  have h0 := h.seen 0
  have h1 := h.seen 1
  unfold Lg.opened
  split
  · have hp : (D.seen 0).length / 1024 < 4294967296 := by omega
    have hD : (anewD D).ok := Dk.sync_ok (Dk.write_ok (Dk.sync_ok (Dk.cut_ok h _ _) _) _ _ _) _
    generalize anewD D = X at hD ⊢
    refine ⟨hD, ?_, ?_, ?_, ?_, ?_, ?_, ?_⟩
    · exact fun f hf => by cases hf
    · exact fun i f hf => by simp at hf
    · exact .inr rfl
    · exact Nat.zero_le _
    · exact hp
    · exact Nat.zero_lt_two
    · exact (by omega : 1 < 4)
  · rename_i hx
    obtain ⟨s1, s2, s3⟩ := slotIx_good hx
    obtain ⟨t1, t2, t3⟩ := slotOf_good s2
    have hlen := framesOf_len (D.seen 1) (slotOf (D.seen 1) (slotIx (D.seen 1))).2.1
    refine ⟨h, fun f hf => ?_, fun i f hf => ?_, ?_, ?_, t3, s1, Nat.lt_succ_of_le t1⟩
    · obtain ⟨i, hi⟩ := List.getElem?_of_mem hf
      obtain ⟨hl, rfl⟩ := framesOf_get _ _ _ _ hi
      have := frameAt_good (l := D.seen 1) (f := (slotOf (D.seen 1) (slotIx (D.seen 1))).2.1) (by omega) hl
      exact ⟨this.1, this.2.1⟩
    · obtain ⟨hl, rfl⟩ := framesOf_get _ _ _ _ hf
      exact (frameAt_good (l := D.seen 1) (f := (slotOf (D.seen 1) (slotIx (D.seen 1))).2.1) (by omega) hl).2.2
    · rcases t2 with t2 | t2
      · refine .inr (List.eq_nil_of_length_eq_zero ?_)
        show (framesOf _ _).length = 0
        rw [hlen, t2]
      · refine .inl ?_
        show 64 + 1028 * (framesOf _ _).length ≤ _
        rw [hlen]; omega
    · show _ ≤ (framesOf _ _).length
      rw [hlen]; exact Nat.le_refl _

/-- Commit, as the cells tell it -/
def commitR (R : Rw) (n : Int) (t : ByteArray) (p : Nat) : Nat → Rw
  | 0 => R
  | 1 => R.app n t
  | 2 => { R.app n t with D := (R.app n t).D.sync 1 }
  | _ => ({ R.app n t with D := (R.app n t).D.sync 1 } : Rw).tell (R.app n t).nf p
def commitEs (R : Rw) (n : Int) (t : ByteArray) (p : Nat) : Nat → Int
  | 0 => R.appE n t
  | 1 => (R.app n t).D.syncE 1
  | _ => ({ R.app n t with D := (R.app n t).D.sync 1 } : Rw).tellE (R.app n t).nf p
def Rw.commit (R : Rw) (n : Int) (t : ByteArray) (p : Int) : Rw :=
  if 1 ≤ p ∧ p ≤ 65536 then
    let C := commitR R n t p.toNat (upTo (commitEs R n t p.toNat) 3).1
    if (upTo (commitEs R n t p.toNat) 3).2 = 0 then { C with np := p.toNat, kf := C.nf, kp := p.toNat, f2 := C.f1 } else C
  else R
def Rw.commitE (R : Rw) (n : Int) (t : ByteArray) (p : Int) : Int := if 1 ≤ p ∧ p ≤ 65536 then (upTo (commitEs R n t p.toNat) 3).2 else 1
theorem upTo3 (Es : Nat → Int) : upTo Es 3 = if Es 0 ≠ 0 then (1, Es 0) else if Es 1 ≠ 0 then (2, Es 1) else (3, Es 2) := by
  by_cases h0 : Es 0 = 0
  · rw [if_neg (by simpa using h0)]
    have e1 : upTo Es 1 = (1, 0) := by rw [upTo_next rfl]; show (0 + 1, Es 0) = _; rw [h0]
    by_cases h1 : Es 1 = 0
    · rw [if_neg (by simpa using h1)]
      have e2 : upTo Es 2 = (2, 0) := by rw [upTo_next e1, h1]
      rw [upTo_next e2]
    · rw [if_pos h1]
      have e2 : upTo Es 2 = (2, Es 1) := upTo_next e1
      rw [upTo_stop (i := 2) (by rw [e2]; exact h1) (by omega), e2]
  · rw [if_pos h0]
    have e1 : upTo Es 1 = (1, Es 0) := upTo_next rfl
    rw [upTo_stop (i := 1) (by rw [e1]; exact h0) (by omega), e1]
theorem rw_eq {L : Lg} {R : Rw} (h1 : L.D = R.D) (h2 : L.fs.length = R.nf) (h3 : L.pages = R.np) (h4 : ∀ x, lastAt L.fs x = R.f1 x) (h5 : L.kept = R.kf) (h6 : L.pages = R.kp) (h7 : ∀ x, lastAt (L.fs.take L.kept) x = R.f2 x) (h8 : L.slot = R.slot) (h9 : L.number = R.number) : L.rw = R := by
  obtain ⟨D, nf, np, f1, kf, kp, f2, sl, nu⟩ := R
  simp only at h1 h2 h3 h4 h5 h6 h7 h8 h9
  unfold Lg.rw
  rw [h1, h2, h3, show (fun x => lastAt L.fs x) = f1 from funext h4, show (fun x => lastAt (L.fs.take L.kept) x) = f2 from funext h7, h5, ← h3, h6, h8, h9]
theorem rw_back {L : Lg} (h : L.ok) : L.back.rw = L.rw.back := by
  have hk := h.kept
  refine rw_eq rfl ?_ rfl (fun x => rfl) rfl rfl (fun x => ?_) rfl rfl
  · show (L.fs.take L.kept).length = L.kept
    rw [List.length_take]; omega
  · show lastAt ((L.fs.take L.kept).take L.kept) x = _
    rw [List.take_take, Nat.min_self]; rfl
theorem turnE_zero (D : Dk) : D.turnE = 0 ↔ ¬ D.stops := by
  unfold Dk.turnE
  split
  · rename_i h; exact ⟨fun h2 => (by cases h2), fun h2 => absurd h h2⟩
  · rename_i h; exact ⟨fun _ => h, fun _ => rfl⟩
theorem writeE_fits {D : Dk} {f a : Nat} {s : ByteArray} (h : f < 2 ∧ a + s.size ≤ 67108864) : D.writeE f a s = D.turnE := if_pos (fitsF_iff.2 h)
theorem syncE_fits {D : Dk} {f : Nat} (h : f < 2) : D.syncE f = D.turnE := if_pos (by omega)
theorem rw_app {L : Lg} (h : L.ok) (n : Int) (t : ByteArray) : (L.append n t).rw = L.rw.app n t ∧ L.appendE n t = L.rw.appE n t := by
  unfold Lg.append Rw.app Lg.appendE Rw.appE
  have e1 : L.rw.at_ = L.at_ := rfl
  have e2 : L.fitsA n t ↔ appFits n t := Iff.rfl
  simp only [e1, e2]
  by_cases hA : appFits n t
  · by_cases hr : L.at_ + 1028 ≤ 67108864
    · obtain ⟨a1, a2, a3⟩ := hA
      have hz : (Fr.bytes ⟨n.toNat, t⟩).length = 1028 := Fr.bytes_len _ a3
      have hw : L.rw.D.writeE 1 L.at_ (frB n t) = L.D.turnE := writeE_fits (f := 1) ⟨by omega, by unfold frB; rw [bsOf_size, hz]; exact hr⟩
      have ha : appFits n t := ⟨a1, a2, a3⟩
      have hc : appFits n t ∧ L.at_ + 1028 ≤ 67108864 := ⟨ha, hr⟩
      rw [if_pos hc, if_pos hc, if_pos ha, if_pos hr, if_pos ha, if_pos hr, hw]
      refine ⟨?_, rfl⟩
      by_cases hs : L.D.stops
      · rw [if_pos hs, if_neg (by rw [turnE_zero]; exact fun h2 => h2 hs)]; rfl
      · rw [if_neg hs, if_pos ((turnE_zero _).2 hs)]
        refine rw_eq rfl ?_ rfl (fun x => ?_) rfl rfl (fun x => ?_) rfl rfl
        · show (L.fs ++ [_]).length = L.fs.length + 1
          rw [List.length_append]; rfl
        · show lastAt (L.fs ++ [_]) x = if x = n then L.fs.length + 1 else lastAt L.fs x
          rw [lastAt_snoc]
          have e3 : ((n.toNat : Nat) : Int) = n := Int.toNat_of_nonneg a1
          show (if ((n.toNat : Nat) : Int) = x then _ else _) = _
          rw [e3]
          by_cases hx : n = x
          · rw [if_pos hx, if_pos hx.symm]
          · rw [if_neg hx, if_neg (fun e => hx e.symm)]
        · show lastAt ((L.fs ++ [_]).take L.kept) x = lastAt (L.fs.take L.kept) x
          rw [List.take_append_of_le_length h.kept]
    · rw [if_neg (fun h2 => hr h2.2), if_neg (fun h2 => hr h2.2), if_pos hA, if_neg hr, if_pos hA, if_neg hr]; exact ⟨rfl, rfl⟩
  · rw [if_neg (fun h2 => hA h2.1), if_neg (fun h2 => hA h2.1), if_neg hA, if_neg hA]; exact ⟨rfl, rfl⟩
theorem rw_tellW {L : Lg} (h : L.ok) (f p : Nat) : L.rw.tellW f p = L.D.turnE :=
  writeE_fits (f := 1) ⟨by omega, by rw [bsOf_size, slotL_len]; omega⟩
theorem rw_tellE {L : Lg} (h : L.ok) (f p : Nat) : L.tellE f p = L.rw.tellE f p := by
  unfold Lg.tellE Rw.tellE
  rw [rw_tellW h]
  by_cases hs : L.D.stops
  · rw [if_pos hs, if_pos (by unfold Dk.turnE; rw [if_pos hs]; decide)]; unfold Dk.turnE; rw [if_pos hs]
  · rw [if_neg hs, if_neg (by rw [(turnE_zero _).2 hs]; simp)]
    exact (syncE_fits (D := L.tellD f p) (f := 1) (by omega)).symm
theorem rw_tell {L : Lg} (h : L.ok) (f p : Nat) : (L.tell f p).rw = if L.tellE f p = 0 then { L.rw.tell f p with np := p, kf := f, kp := p, f2 := fun x => lastAt (L.fs.take f) x } else L.rw.tell f p := by
  have hW := rw_tellW h f p
  have e3 : (L.rw.tellD f p).syncE 1 = (L.tellD f p).turnE := syncE_fits (f := 1) (by omega)
  by_cases hs : L.D.stops
  · have e2 : L.D.turnE = 2 := if_pos hs
    have a1 : L.tellE f p = 2 := if_pos hs
    have a2 : L.tell f p = { L with D := L.tellD f p } := if_pos hs
    have a3 : L.rw.tell f p = { L.rw with D := L.rw.tellD f p } := if_pos (by rw [hW, e2]; decide)
    rw [a1, a2, a3, if_neg (by decide)]; rfl
  · have e0 := (turnE_zero _).2 hs
    have n0 : ¬ (L.rw.tellW f p ≠ 0) := by rw [hW, e0]; simp
    have a1 : L.tellE f p = (L.tellD f p).turnE := if_neg hs
    by_cases h2 : (L.tellD f p).stops
    · have e2 : (L.tellD f p).turnE = 2 := if_pos h2
      have a2 : L.tell f p = { L with D := (L.tellD f p).sync 1 } := (if_neg hs).trans (if_pos h2)
      have a3 : L.rw.tell f p = { L.rw with D := (L.rw.tellD f p).sync 1 } := (if_neg n0).trans (if_pos (by rw [e3, e2]; decide))
      rw [a1, a2, a3, e2, if_neg (by decide)]; rfl
    · have e2 : (L.tellD f p).turnE = 0 := (turnE_zero _).2 h2
      have a2 : L.tell f p = { L with D := (L.tellD f p).sync 1, slot := 1 - L.slot, number := L.number % 3 + 1, kept := f, pages := p } := (if_neg hs).trans (if_neg h2)
      have a3 : L.rw.tell f p = { L.rw with D := (L.rw.tellD f p).sync 1, slot := 1 - L.rw.slot, number := L.rw.number % 3 + 1 } := (if_neg n0).trans (if_neg (by rw [e3, e2]; simp))
      rw [a1, a2, a3, e2, if_pos rfl]; rfl
theorem tell_same (R : Rw) (f p : Nat) : (R.tell f p).nf = R.nf ∧ (R.tell f p).f1 = R.f1 ∧ (R.tell f p).kp = R.kp ∧ (R.tell f p).np = R.np ∧ (R.tell f p).kf = R.kf ∧ (R.tell f p).f2 = R.f2 := by
  unfold Rw.tell; split
  · exact ⟨rfl, rfl, rfl, rfl, rfl, rfl⟩
  · split <;> exact ⟨rfl, rfl, rfl, rfl, rfl, rfl⟩
theorem rw_commit {L : Lg} (h : L.ok) (n : Int) (t : ByteArray) (p : Int) : (L.commit n t p).rw = L.rw.commit n t p ∧ L.commitE n t p = L.rw.commitE n t p := by
  obtain ⟨a1, a2⟩ := rw_app h n t
  by_cases hp : 1 ≤ p ∧ p ≤ 65536
  · have r1 : L.rw.commit n t p = if (upTo (commitEs L.rw n t p.toNat) 3).2 = 0 then { commitR L.rw n t p.toNat (upTo (commitEs L.rw n t p.toNat) 3).1 with np := p.toNat, kf := (commitR L.rw n t p.toNat (upTo (commitEs L.rw n t p.toNat) 3).1).nf, kp := p.toNat, f2 := (commitR L.rw n t p.toNat (upTo (commitEs L.rw n t p.toNat) 3).1).f1 } else commitR L.rw n t p.toNat (upTo (commitEs L.rw n t p.toNat) 3).1 := if_pos hp
    have r2 : L.rw.commitE n t p = (upTo (commitEs L.rw n t p.toNat) 3).2 := if_pos hp
    have c0 : commitEs L.rw n t p.toNat 0 = L.appendE n t := a2.symm
    have aD : (L.rw.app n t).D = (L.append n t).D := by rw [← a1]; rfl
    have c1 : commitEs L.rw n t p.toNat 1 = (L.append n t).D.turnE := by
      show (L.rw.app n t).D.syncE 1 = _
      rw [aD]; exact syncE_fits (f := 1) (by omega)
    rw [r1, r2]
    by_cases h0 : L.appendE n t = 0
    · by_cases hs : (L.append n t).D.stops
      · have e2 : (L.append n t).D.turnE = 2 := if_pos hs
        have u : upTo (commitEs L.rw n t p.toNat) 3 = (2, 2) := by rw [upTo3, c0, c1, if_neg (fun h2 => h2 h0), e2, if_pos (by decide)]
        have l1 : L.commit n t p = { L.append n t with D := (L.append n t).D.sync 1 } := (if_pos hp).trans ((if_pos h0).trans (if_pos hs))
        have l2 : L.commitE n t p = 2 := (if_pos hp).trans ((if_pos h0).trans (if_pos hs))
        rw [u, l1, l2]
        refine ⟨?_, rfl⟩
        rw [if_neg (by decide)]
        show ({ L.append n t with D := (L.append n t).D.sync 1 } : Lg).rw = { L.rw.app n t with D := (L.rw.app n t).D.sync 1 }
        rw [← a1]; rfl
      · have e2 : (L.append n t).D.turnE = 0 := (turnE_zero _).2 hs
        have u : upTo (commitEs L.rw n t p.toNat) 3 = (3, commitEs L.rw n t p.toNat 2) := by rw [upTo3, c0, c1, if_neg (fun h2 => h2 h0), e2, if_neg (fun h2 => h2 rfl)]
        have l1 : L.commit n t p = ({ L.append n t with D := (L.append n t).D.sync 1 } : Lg).tell (L.append n t).fs.length p.toNat := (if_pos hp).trans ((if_pos h0).trans (if_neg hs))
        have l2 : L.commitE n t p = ({ L.append n t with D := (L.append n t).D.sync 1 } : Lg).tellE (L.append n t).fs.length p.toNat := (if_pos hp).trans ((if_pos h0).trans (if_neg hs))
        have hA : ({ L.append n t with D := (L.append n t).D.sync 1 } : Lg).ok := (append_ok h n t).sync1 1 (by omega)
        have hR : ({ L.rw.app n t with D := (L.rw.app n t).D.sync 1 } : Rw) = ({ L.append n t with D := (L.append n t).D.sync 1 } : Lg).rw := by rw [← a1]; rfl
        have hn : (L.rw.app n t).nf = (L.append n t).fs.length := by rw [← a1]; rfl
        have c2 : commitEs L.rw n t p.toNat 2 = ({ L.append n t with D := (L.append n t).D.sync 1 } : Lg).rw.tellE (L.append n t).fs.length p.toNat := by
          show ({ L.rw.app n t with D := (L.rw.app n t).D.sync 1 } : Rw).tellE (L.rw.app n t).nf p.toNat = _
          rw [hR, hn]
        have c3 : commitR L.rw n t p.toNat 3 = ({ L.append n t with D := (L.append n t).D.sync 1 } : Lg).rw.tell (L.append n t).fs.length p.toNat := by
          show ({ L.rw.app n t with D := (L.rw.app n t).D.sync 1 } : Rw).tell (L.rw.app n t).nf p.toNat = _
          rw [hR, hn]
        have hf : ({ L.append n t with D := (L.append n t).D.sync 1 } : Lg).fs = (L.append n t).fs := rfl
        rw [u, l1, l2]
        generalize ({ L.append n t with D := (L.append n t).D.sync 1 } : Lg) = M at *
        have b1 := rw_tell hA (L.append n t).fs.length p.toNat
        have b2 := rw_tellE hA (L.append n t).fs.length p.toNat
        dsimp only
        rw [c2, c3, ← b2]
        refine ⟨?_, rfl⟩
        rw [b1]
        by_cases ht : M.tellE (L.append n t).fs.length p.toNat = 0
        · rw [if_pos ht, if_pos ht]
          obtain ⟨s1, s2, _⟩ := tell_same M.rw (L.append n t).fs.length p.toNat
          dsimp only
          have q1 : (fun x => lastAt (M.fs.take (L.append n t).fs.length) x) = M.rw.f1 := funext fun x => by
            show lastAt (M.fs.take (L.append n t).fs.length) x = lastAt M.fs x
            rw [← hf, List.take_length]
          have q2 : (L.append n t).fs.length = M.rw.nf := by rw [← hf]; rfl
          rw [s1, s2, q1, ← q2]
        · rw [if_neg ht, if_neg ht]
    · have u : upTo (commitEs L.rw n t p.toNat) 3 = (1, L.appendE n t) := by rw [upTo3, c0, if_pos h0]
      have l1 : L.commit n t p = L.append n t := (if_pos hp).trans (if_neg h0)
      have l2 : L.commitE n t p = L.appendE n t := (if_pos hp).trans (if_neg h0)
      rw [u, l1, l2]
      refine ⟨?_, rfl⟩
      dsimp only
      rw [if_neg h0]; exact a1
  · exact ⟨(congrArg Lg.rw (if_neg hp)).trans (if_neg hp).symm, (if_neg hp).trans (if_neg hp).symm⟩

end Go.Proofs.Ytjihboddejaelaa
