/-
  What a crash leaves of a log's files, in plain Lean (2): a commit that is told, half of it, a checkpoint's pages. No program in sight.
-/
import Derived.Test.YtjihboddejaelaaKeptP1
namespace Go.Proofs.Ytjihboddejaelaa
open Go.RowKit
set_option linter.unusedVariables false
set_option linter.unusedSimpArgs false

/-! XKept5 -/
/-- the log's file with the other slot written -/
def toldL (L : Lg) (f p : Nat) : List UInt8 := putL L.D.l1 (16 + 24 * (1 - L.slot)) (slotL (L.number % 3 + 1) f p)
theorem told_file {L : Lg} (h : Synced L) (h64 : 64 ≤ L.D.l1.length) (f p : Nat) :
    (toldL L f p).length = L.D.l1.length ∧ (toldL L f p).take 16 = markL ∧ partL (toldL L f p) (16 + 24 * (1 - L.slot)) 24 = slotL (L.number % 3 + 1) f p ∧
    partL (toldL L f p) (16 + 24 * L.slot) 24 = slotL L.number L.kept L.pages ∧ ∀ a n, 64 ≤ a → a + n ≤ L.D.l1.length → partL (toldL L f p) a n = partL L.D.l1 a n := by
  have hs := h.safe.ok.slot
  have hz := slotL_len (L.number % 3 + 1) f p
  unfold toldL
  refine ⟨by rw [putL_len, hz]; omega, ?_, ?_, ?_, fun a n ha hn => partL_put hn (.inr (by rw [hz]; omega))⟩
  · have := partL_put (l := L.D.l1) (a := 16 + 24 * (1 - L.slot)) (t := slotL (L.number % 3 + 1) f p) (b := 0) (n := 16) (by omega) (.inl (by omega))
    rw [partL_zero, partL_zero] at this
    rw [this]; exact h.safe.mark
  · have := partL_put_same L.D.l1 (16 + 24 * (1 - L.slot)) (slotL (L.number % 3 + 1) f p)
    rw [hz] at this
    exact this
  · rw [partL_put (by omega) (by rw [hz]; omega)]
    exact h.safe.slot
theorem synced_seen {L : Lg} (h : Synced L) (k : Nat) : L.D.seen k = L.D.lasts k := by
  unfold Dk.seen
  rw [h.waits]; rfl
theorem told_lasts {L : Lg} (h : Synced L) (f p : Nat) (h1 : ¬ L.D.stops) (h2 : ¬ (L.tellD f p).stops) :
    ((L.tellD f p).sync 1).l0 = L.D.l0 ∧ ((L.tellD f p).sync 1).l1 = toldL L f p ∧ ((L.tellD f p).sync 1).waits = [] := by
  have hs := h.safe.ok.slot
  have hfit : (1 < 2 ∧ 16 + 24 * (1 - L.slot) + (bsOf (slotL (L.number % 3 + 1) f p)).size ≤ 67108864) := ⟨by omega, by rw [bsOf_size, slotL_len]; omega⟩
  have hD : L.tellD f p = L.D.change ⟨(1 : Int).toNat, ((16 + 24 * (1 - L.slot) : Nat) : Int).toNat, bsOf (slotL (L.number % 3 + 1) f p), false⟩ := if_pos (fitsF_iff.2 hfit)
  have hW : (L.tellD f p).waits = [⟨(1 : Int).toNat, ((16 + 24 * (1 - L.slot) : Nat) : Int).toNat, bsOf (slotL (L.number % 3 + 1) f p), false⟩] := by
    rw [hD]; unfold Dk.change; rw [if_neg h1]
    show L.D.waits ++ [_] = _
    rw [h.waits]; rfl
  have hL : (L.tellD f p).l0 = L.D.l0 := by rw [hD]; exact (change_lasts _ _).1
  have hS : (L.tellD f p).seen 1 = toldL L f p := by
    have := write_seen L.D 1 (16 + 24 * (1 - L.slot)) (bsOf (slotL (L.number % 3 + 1) f p)) 1
    rw [if_pos ⟨hfit, h1, rfl⟩, bsOf_list, synced_seen h] at this
    exact this
  have e : (L.tellD f p).sync 1 = (L.tellD f p).syncT 1 := by
    unfold Dk.sync
    rw [if_pos (by decide), if_neg h2]; rfl
  rw [e]
  refine ⟨hL, hS, ?_⟩
  show (L.tellD f p).waits.filter (fun c => decide (c.file ≠ 1)) = []
  rw [hW]
  rfl
theorem safe_tell {L : Lg} (h : Synced L) (h64 : 64 ≤ L.D.l1.length) {f p : Nat} (hf : f ≤ L.fs.length) (hp : p < 4294967296) (h1 : ¬ L.D.stops) (h2 : ¬ (L.tellD f p).stops) : Synced (L.tell f p) := by
  obtain ⟨t1, t2, t3, t4, t5⟩ := told_file h h64 f p
  obtain ⟨d0, d1, d2⟩ := told_lasts h f p h1 h2
  have hok := h.safe.ok.tell hf hp
  have hn := h.safe.num
  have hs := h.safe.ok.slot
  have hlen := h.safe.ok.len
  have e : L.tell f p = { L with D := (L.tellD f p).sync 1, slot := 1 - L.slot, number := L.number % 3 + 1, kept := f, pages := p } := (if_neg h1).trans (if_neg h2)
  rw [e] at hok ⊢
  generalize (L.tellD f p).sync 1 = X at *
  have hfl : ∀ (i : Nat) (g : Fr), L.fs[i]? = some g → 64 + 1028 * i + 1028 ≤ L.D.l1.length := fun i g hg => partL_full (synced_lies h hg) (Fr.bytes_len _ (h.safe.ok.frames g (List.mem_of_getElem? hg)).2) (by omega)
  refine ⟨⟨hok, ?_, ⟨by show 1 ≤ L.number % 3 + 1; omega, by show L.number % 3 + 1 ≤ 3; omega⟩, ?_, ?_, ?_, fun i g hi hg => ?_, fun c hc => ?_, fun c hc => ?_⟩, d2⟩
  · show X.l1.take 16 = _; rw [d1]; exact t2
  · show partL X.l1 _ _ = _; rw [d1]; exact t3
  · show OldSlot ((zt X.l1 (40 + 24 * (1 - (1 - L.slot)))).drop (16 + 24 * (1 - (1 - L.slot)))) (L.number % 3 + 1)
    rw [d1, show 1 - (1 - L.slot) = L.slot by omega]
    have ez : (zt (toldL L f p) (40 + 24 * L.slot)).drop (16 + 24 * L.slot) = partL (toldL L f p) (16 + 24 * L.slot) 24 := by
      rw [← partL_zt (B := 40 + 24 * L.slot) (by omega) (by omega)]
      unfold partL
      rw [List.take_of_length_le]
      rw [List.length_drop]
      unfold zt
      rw [List.length_take]; omega
    rw [ez, t4]
    have hk := h.safe.ok.kept
    exact .inr ⟨L.number, L.kept, L.pages, hn.1, hn.2, rfl, by omega, h.safe.ok.pages, rfl⟩
  · show f = 0 ∨ 64 + 1028 * f ≤ X.l1.length
    rw [d1, t1]
    rcases Nat.eq_zero_or_pos f with h0 | h0
    · exact .inl h0
    · have hfi : f - 1 < L.fs.length := by omega
      have := hfl (f - 1) _ (List.getElem?_eq_getElem hfi)
      exact .inr (by omega)
  · show partL X.l1 _ _ = _
    have hg2 : L.fs[i]? = some g := hg
    rw [d1, t5 _ _ (by omega) (hfl i g hg2)]
    exact synced_lies h hg2
  · have hc2 : c ∈ X.waits := hc
    rw [d2] at hc2; cases hc2
  · have hc2 : c ∈ X.waits := hc
    rw [d2] at hc2; cases hc2

/-! XKept6 -/
theorem zt_drop {l : List UInt8} {k : Nat} (h : 40 + 24 * k ≤ l.length) : (zt l (40 + 24 * k)).drop (16 + 24 * k) = partL l (16 + 24 * k) 24 := by
  rw [← partL_zt (B := 40 + 24 * k) (by omega) (by omega)]
  unfold partL
  rw [List.take_of_length_le]
  rw [List.length_drop]
  unfold zt
  rw [List.length_take]; omega
/-- the number in the second half of a slot that does not count is not the next one -/
theorem old_half {t : List UInt8} {N : Nat} (hN : 1 ≤ N ∧ N ≤ 3) (h : OldSlot t N) : unK (t.drop 12 |>.take 4) ≠ N % 3 + 1 := by
  rcases h with h | ⟨n, f, p, n1, n2, n3, _, _, h⟩
  · rw [h]
    have : unK ((List.replicate 24 (0 : UInt8)).drop 12 |>.take 4) = 0 := by decide
    rw [this]; omega
  · have e : (slotL n f p).drop 12 = beK n 4 ++ beK f 4 ++ beK p 4 := by
      unfold slotL
      rw [List.drop_append_of_le_length (by simp [beK_len]), List.drop_of_length_le (by simp [beK_len]), List.nil_append]
    rw [h, e, List.append_assoc, unK_take4 _ (by omega)]
    omega
def halfL (L : Lg) (f p : Nat) : List UInt8 := putL L.D.l1 (16 + 24 * (1 - L.slot)) ((slotL (L.number % 3 + 1) f p).take 12)
theorem half_told {L : Lg} (h : Synced L) (h64 : 64 ≤ L.D.l1.length) (f p : Nat) : (slotOf (halfL L f p) (1 - L.slot)).1 = 0 := by
  have hs := h.safe.ok.slot
  have hn := h.safe.num
  have hz : ((slotL (L.number % 3 + 1) f p).take 12).length = 12 := by rw [List.length_take, slotL_len]; omega
  have hlen : (halfL L f p).length = L.D.l1.length := by unfold halfL; rw [putL_len, hz]; omega
  have hold := h.safe.old
  rw [zt_drop (by omega)] at hold
  have ho := old_half hn hold
  refine Classical.byContradiction fun hc => ?_
  unfold slotOf at hc
  rw [if_neg (by omega)] at hc
  dsimp only at hc
  split at hc
  · exact hc rfl
  · rename_i hcond
    have heq : (partL (halfL L f p) (16 + 24 * (1 - L.slot)) 24).take 12 = (partL (halfL L f p) (16 + 24 * (1 - L.slot)) 24).drop 12 := Classical.byContradiction fun h3 => hcond (.inl h3)
    have e1 : (partL (halfL L f p) (16 + 24 * (1 - L.slot)) 24).take 12 = (slotL (L.number % 3 + 1) f p).take 12 := by
      have := partL_put_same L.D.l1 (16 + 24 * (1 - L.slot)) ((slotL (L.number % 3 + 1) f p).take 12)
      rw [hz] at this
      refine Eq.trans ?_ this
      unfold halfL partL
      rw [List.take_take]; rfl
    have e2 : (partL (halfL L f p) (16 + 24 * (1 - L.slot)) 24).drop 12 = (partL L.D.l1 (16 + 24 * (1 - L.slot)) 24).drop 12 := by
      refine List.ext_getElem? fun i => ?_
      rw [List.getElem?_drop, List.getElem?_drop, partL_get, partL_get]
      split
      · unfold halfL
        rw [putL_get, if_neg (by rw [hz]; omega), zerosTo_get _ _ _ (by omega)]
      · rfl
    rw [e1, e2] at heq
    have h4 := congrArg (fun x : List UInt8 => unK (x.take 4)) heq
    rw [List.take_take, show min 4 12 = 4 from rfl, slotL_parts12, unK_beK4 (by omega)] at h4
    exact ho h4.symm
/-- what is read behind a half told commit -/
theorem half_reads {L : Lg} (h : Synced L) (h64 : 64 ≤ L.D.l1.length) (f p : Nat) : slotIx (halfL L f p) = L.slot ∧ slotOf (halfL L f p) L.slot = (L.number, L.kept, L.pages) ∧ framesOf (halfL L f p) L.kept = L.fs.take L.kept := by
  have hs := h.safe.ok.slot
  have hlenL := h.safe.ok.len
  have hkl := h.safe.ok.kept
  have hz : ((slotL (L.number % 3 + 1) f p).take 12).length = 12 := by rw [List.length_take, slotL_len]; omega
  have hlen : (halfL L f p).length = L.D.l1.length := by unfold halfL; rw [putL_len, hz]; omega
  have hpart : ∀ a n, a + n ≤ L.D.l1.length → (a + n ≤ 16 + 24 * (1 - L.slot) ∨ 28 + 24 * (1 - L.slot) ≤ a) → partL (halfL L f p) a n = partL L.D.l1 a n := fun a n h1 h2 => by
    unfold halfL
    exact partL_put h1 (h2.imp id (fun h3 => by rw [hz]; omega))
  have hsl := partL_full h.safe.slot (slotL_len _ _ _) (by omega)
  have em : (halfL L f p).take 16 = markL := by
    have := hpart 0 16 (by omega) (.inl (by omega))
    rw [partL_zero, partL_zero] at this
    rw [this]; exact h.safe.mark
  have es : slotOf (halfL L f p) L.slot = (L.number, L.kept, L.pages) :=
    slotOf_slotL (by omega) ((hpart _ 24 (by omega) (by omega)).trans h.safe.slot) h.safe.num (by omega) h.safe.ok.pages (by
      rcases h.safe.top with h2 | h2
      · exact .inl h2
      · exact .inr (by omega))
  refine ⟨ix_of em hs h.safe.num es (.inl (half_told h h64 f p)), es, ?_⟩
  refine List.ext_getElem? fun i => ?_
  rw [List.getElem?_take]
  by_cases hi : i < L.kept
  · have hil : i < L.fs.length := by omega
    have hf := List.getElem?_eq_getElem hil
    have hb := synced_lies h hf
    have hfr := h.safe.ok.frames _ (List.getElem_mem hil)
    have hfull := partL_full hb (Fr.bytes_len _ hfr.2) (by omega)
    have hfa := frameAt_bytes ((hpart _ 1028 hfull (.inr (by omega))).trans hb) hfr.1 hfr.2
    rw [if_pos hi, hf]
    have hli : i < (framesOf (halfL L f p) L.kept).length := by rw [framesOf_len]; exact hi
    have hg := List.getElem?_eq_getElem hli
    rw [hg, (framesOf_get _ _ _ _ hg).2, hfa]
  · rw [if_neg hi, List.getElem?_eq_none (by rw [framesOf_len]; omega)]

/-! XKept7 -/
/-- what is read where the commit was told whole -/
theorem told_reads {L : Lg} (h : Synced L) (h64 : 64 ≤ L.D.l1.length) {f p : Nat} (hf : f ≤ L.fs.length) (hp : p < 4294967296) : slotIx (toldL L f p) = 1 - L.slot ∧ slotOf (toldL L f p) (1 - L.slot) = (L.number % 3 + 1, f, p) ∧ framesOf (toldL L f p) f = L.fs.take f := by
  obtain ⟨t1, t2, t3, t4, t5⟩ := told_file h h64 f p
  have hn := h.safe.num
  have hs := h.safe.ok.slot
  have hlen := h.safe.ok.len
  have hk := h.safe.ok.kept
  have hfl : ∀ (i : Nat) (g : Fr), L.fs[i]? = some g → 64 + 1028 * i + 1028 ≤ L.D.l1.length := fun i g hg => partL_full (synced_lies h hg) (Fr.bytes_len _ (h.safe.ok.frames g (List.mem_of_getElem? hg)).2) (by omega)
  have es : slotOf (toldL L f p) (1 - L.slot) = (L.number % 3 + 1, f, p) := slotOf_slotL (by omega) t3 (by omega) (by omega) hp (by
    rcases Nat.eq_zero_or_pos f with h0 | h0
    · exact .inl h0
    · have hfi : f - 1 < L.fs.length := by omega
      have := hfl (f - 1) _ (List.getElem?_eq_getElem hfi)
      exact .inr (by omega))
  have eo := old_told (l := toldL L f p) (k := L.slot) (N := L.number % 3 + 1) (by
    rw [zt_drop (by omega), t4]
    exact .inr ⟨L.number, L.kept, L.pages, hn.1, hn.2, rfl, by omega, h.safe.ok.pages, rfl⟩)
  refine ⟨ix_of t2 (by omega) (by omega) es (by rw [show 1 - (1 - L.slot) = L.slot by omega]; exact eo), es, ?_⟩
  refine List.ext_getElem? fun i => ?_
  rw [List.getElem?_take]
  by_cases hi : i < f
  · have hil : i < L.fs.length := by omega
    have hfi := List.getElem?_eq_getElem hil
    have hfr := h.safe.ok.frames _ (List.getElem_mem hil)
    have hfa := frameAt_bytes ((t5 _ 1028 (by omega) (hfl i _ hfi)).trans (synced_lies h hfi)) hfr.1 hfr.2
    rw [if_pos hi, hfi]
    have hli : i < (framesOf (toldL L f p) f).length := by rw [framesOf_len]; exact hi
    have hg := List.getElem?_eq_getElem hli
    rw [hg, (framesOf_get _ _ _ _ hg).2, hfa]
  · rw [if_neg hi, List.getElem?_eq_none (by rw [framesOf_len]; omega)]
/-- the disk in the midst of telling: the slot is written, and its sync stopped -/
theorem mid_waits {L : Lg} (h : Synced L) (f p : Nat) (h1 : ¬ L.D.stops) (h2 : (L.tellD f p).stops) :
    ((L.tellD f p).sync 1).l0 = L.D.l0 ∧ ((L.tellD f p).sync 1).l1 = L.D.l1 ∧ ((L.tellD f p).sync 1).waits = [⟨1, 16 + 24 * (1 - L.slot), bsOf (slotL (L.number % 3 + 1) f p), false⟩] := by
  have hfit : (1 < 2 ∧ 16 + 24 * (1 - L.slot) + (bsOf (slotL (L.number % 3 + 1) f p)).size ≤ 67108864) := ⟨by omega, by rw [bsOf_size, slotL_len]; omega⟩
  have hD : L.tellD f p = L.D.change ⟨(1 : Int).toNat, ((16 + 24 * (1 - L.slot) : Nat) : Int).toNat, bsOf (slotL (L.number % 3 + 1) f p), false⟩ := if_pos (fitsF_iff.2 hfit)
  have e : (L.tellD f p).sync 1 = (L.tellD f p).turn := by
    unfold Dk.sync
    rw [if_pos (by decide), if_pos h2]
  obtain ⟨a1, a2, a3⟩ := turn_lasts (L.tellD f p)
  rw [e, a1, a2, a3, hD]
  obtain ⟨b1, b2, _⟩ := change_lasts L.D ⟨(1 : Int).toNat, ((16 + 24 * (1 - L.slot) : Nat) : Int).toNat, bsOf (slotL (L.number % 3 + 1) f p), false⟩
  refine ⟨b1, b2, ?_⟩
  unfold Dk.change
  rw [if_neg h1]
  show L.D.waits ++ [_] = _
  rw [h.waits, Int.toNat_natCast]; rfl
theorem mid_crash {L : Lg} (h : Synced L) (h64 : 64 ≤ L.D.l1.length) {f p : Nat} (hf : f ≤ L.fs.length) (hp : p < 4294967296) (h1 : ¬ L.D.stops) (h2 : (L.tellD f p).stops) (keep : List Int) :
    (((L.tellD f p).sync 1).crash keep).l0 = L.D.l0 ∧
    ((slotIx (((L.tellD f p).sync 1).crash keep).l1 = L.slot ∧ slotOf (((L.tellD f p).sync 1).crash keep).l1 L.slot = (L.number, L.kept, L.pages) ∧ framesOf (((L.tellD f p).sync 1).crash keep).l1 L.kept = L.fs.take L.kept) ∨
     (slotIx (((L.tellD f p).sync 1).crash keep).l1 = 1 - L.slot ∧ slotOf (((L.tellD f p).sync 1).crash keep).l1 (1 - L.slot) = (L.number % 3 + 1, f, p) ∧ framesOf (((L.tellD f p).sync 1).crash keep).l1 f = L.fs.take f)) := by
  obtain ⟨w0, w1, w2⟩ := mid_waits h f p h1 h2
  generalize (L.tellD f p).sync 1 = X at *
  have e0 : (X.crash keep).l0 = L.D.l0 := by
    show crashL keep X.waits 0 0 X.l0 = _
    rw [w2, w0]
    exact crashL_none keep _ 0 0 _ (fun c hc => by rw [List.mem_singleton.1 hc]; show (1 : Nat) ≠ 0; omega)
  have e1 : (X.crash keep).l1 = crash1 ⟨1, 16 + 24 * (1 - L.slot), bsOf (slotL (L.number % 3 + 1) f p), false⟩ (howL keep 0) L.D.l1 1 := by
    show crashL keep X.waits 0 1 X.l1 = _
    rw [w2, w1]; rfl
  refine ⟨e0, ?_⟩
  rw [e1]
  unfold crash1
  rw [if_pos rfl]
  by_cases k1 : howL keep 0 = 1
  · rw [if_pos k1]
    have e2 : Ch.done ⟨1, 16 + 24 * (1 - L.slot), bsOf (slotL (L.number % 3 + 1) f p), false⟩ L.D.l1 = toldL L f p := by
      unfold Ch.done toldL
      rw [if_neg (show ¬ (false = true) by decide), bsOf_list]
    rw [e2]
    exact .inr (told_reads h h64 hf hp)
  · rw [if_neg k1]
    by_cases k2 : howL keep 0 = 2
    · rw [if_pos k2]
      have e2 : Ch.done (Ch.half ⟨1, 16 + 24 * (1 - L.slot), bsOf (slotL (L.number % 3 + 1) f p), false⟩) L.D.l1 = halfL L f p := by
        unfold Ch.half
        rw [if_neg (show ¬ (false = true) by decide)]
        unfold Ch.done halfL
        rw [if_neg (by show ¬ (false = true); decide)]
        show putL L.D.l1 (16 + 24 * (1 - L.slot)) ((bsOf (slotL (L.number % 3 + 1) f p)).extract 0 ((bsOf (slotL (L.number % 3 + 1) f p)).size / 2)).data.toList = _
        rw [bsOf_size, slotL_len, extr_part, bsOf_list, bsOf_list]
        rfl
      rw [e2]
      exact .inl (half_reads h h64 f p)
    · rw [if_neg k2]
      have := after_crash h.safe []
      have e3 : (L.D.crash []).l1 = L.D.l1 := by
        show crashL [] L.D.waits 0 1 L.D.l1 = _
        rw [h.waits]; rfl
      rw [e3] at this
      exact .inl ⟨this.2.1, this.2.2.1, this.2.2.2⟩

/-! XKept8 -/
def zpg (l : List UInt8) (n : Nat) : List UInt8 := partL (zt l 6144) (1024 * n) 1024
def zeroPage : ByteArray := bsOf (List.replicate 1024 0)
/-- page n is told as o by frames and the first file -/
def LiesP (l0 : List UInt8) (fs : List Fr) (n : Nat) (o : Option ByteArray) : Prop :=
  if lastAt fs n ≠ 0 then (fs[lastAt fs n - 1]?).map (·.text) = o
  else bsOf (zpg l0 n) = o.getD zeroPage ∧ (o ≠ none → 1024 * n + 1024 ≤ l0.length)
def Holds (l0 : List UInt8) (fs : List Fr) (K : Nat → Option ByteArray) : Prop := ∀ n, n < 6 → LiesP l0 fs n (K n)
theorem zpg_ext {l l' : List UInt8} {n : Nat} (h : ∀ i, 1024 * n ≤ i → i < 1024 * n + 1024 → i < 6144 → (zt l' 6144)[i]? = (zt l 6144)[i]?) : zpg l' n = zpg l n := by
  refine List.ext_getElem? fun i => ?_
  unfold zpg
  rw [partL_get, partL_get]
  split
  · by_cases hi : 1024 * n + i < 6144
    · exact h _ (by omega) (by omega) hi
    · rw [zt_get, zt_get, if_neg hi, if_neg hi]
  · rfl
theorem zt_putL (l t : List UInt8) (a B i : Nat) (hi : i < B) : (zt (putL l a t) B)[i]? = if a ≤ i ∧ i < a + t.length then t[i - a]? else (zt l B)[i]? := by
  rw [zt_get, if_pos hi, putL_get, putL_len, zt_get, if_pos hi, zerosTo_get2]
  by_cases h : a ≤ i ∧ i < a + t.length
  · rw [if_pos h, if_pos h, if_pos (by omega)]
  · rw [if_neg h, if_neg h]
    by_cases h1 : i < l.length
    · rw [if_pos h1, if_pos h1, if_pos (by omega)]
    · rw [if_neg h1, if_neg h1]
      by_cases h2 : i < a + t.length
      · rw [if_pos h2, if_pos (by omega)]
      · rw [if_neg (by omega)]
theorem zt_len {l : List UInt8} {B : Nat} : (zt l B).length = B := by
  unfold zt
  rw [List.length_take, zerosTo_len]; omega
theorem zt_zt {l : List UInt8} {B : Nat} : zt (zt l B) B = zt l B := by
  unfold zt
  rw [zerosTo_big (by rw [List.length_take, zerosTo_len]; omega), List.take_take, Nat.min_self]
/-- a change of the first file: a page of those that F tells is written, or the file is cut to six pages -/
def PgCh (F : Nat → Prop) (c : Ch) : Prop := c.file = 0 ∧ ((c.cut = true ∧ c.at_ = 6144) ∨ (c.cut = false ∧ ∃ m, m < 6 ∧ F m ∧ c.at_ = 1024 * m ∧ c.text.size = 1024))
theorem pages_put {F : Nat → Prop} {l t : List UInt8} {m : Nat} (hm : m < 6) (hF : F m) (ht : t.length ≤ 1024) (hl : l.length ≤ 6144) : l.length ≤ (putL l (1024 * m) t).length ∧ (putL l (1024 * m) t).length ≤ 6144 ∧ ∀ n, ¬ F n → zpg (putL l (1024 * m) t) n = zpg l n := by
  refine ⟨by rw [putL_len]; omega, by rw [putL_len]; omega, fun n hn => zpg_ext fun i h1 h2 h3 => ?_⟩
  rw [zt_putL _ _ _ _ _ h3, if_neg]
  intro h4
  have : n = m := by omega
  subst this; exact hn hF
theorem crash1_pages {F : Nat → Prop} {c : Ch} (hc : PgCh F c) (how : Int) {l : List UInt8} (hl : l.length ≤ 6144) : l.length ≤ (crash1 c how l 0).length ∧ (crash1 c how l 0).length ≤ 6144 ∧ ∀ n, ¬ F n → zpg (crash1 c how l 0) n = zpg l n := by
  have hcut : c.cut = true → c.at_ = 6144 → l.length ≤ (c.done l).length ∧ (c.done l).length ≤ 6144 ∧ ∀ n, ¬ F n → zpg (c.done l) n = zpg l n := fun h1 h2 => by
    have e : c.done l = zt l 6144 := by unfold Ch.done; rw [if_pos h1, h2]; rfl
    rw [e, zt_len]
    exact ⟨hl, Nat.le_refl _, fun n _ => by unfold zpg; rw [zt_zt]⟩
  unfold crash1
  obtain ⟨hf, hk⟩ := hc
  rw [if_pos hf]
  rcases hk with ⟨h1, h2⟩ | ⟨h1, m, hm, hF, ha, hs⟩
  · split
    · exact hcut h1 h2
    · split
      · have e : c.half = c := by unfold Ch.half; rw [if_pos h1]
        rw [e]; exact hcut h1 h2
      · exact ⟨Nat.le_refl _, hl, fun _ _ => rfl⟩
  · have hn : ¬ c.cut = true := by rw [h1]; decide
    split
    · unfold Ch.done
      rw [if_neg hn, ha]
      exact pages_put hm hF (by rw [Array.length_toList]; show c.text.size ≤ _; omega) hl
    · split
      · unfold Ch.half
        rw [if_neg hn]
        unfold Ch.done
        rw [if_neg (show ¬ c.cut = true from hn)]
        show l.length ≤ (putL l c.at_ _).length ∧ _
        dsimp only
        rw [ha]
        exact pages_put hm hF (by rw [Array.length_toList]; show (c.text.extract 0 (c.text.size / 2)).size ≤ _; rw [ByteArray.size_extract]; omega) hl
      · exact ⟨Nat.le_refl _, hl, fun _ _ => rfl⟩
theorem crashL_pages (keep : List Int) {F : Nat → Prop} : ∀ (ws : List Ch) (i : Nat) (l : List UInt8), (∀ c ∈ ws, PgCh F c) → l.length ≤ 6144 → l.length ≤ (crashL keep ws i 0 l).length ∧ (crashL keep ws i 0 l).length ≤ 6144 ∧ ∀ n, ¬ F n → zpg (crashL keep ws i 0 l) n = zpg l n
  | [], i, l, _, hl => ⟨Nat.le_refl _, hl, fun _ _ => rfl⟩
  | c :: ws, i, l, h, hl => by
    obtain ⟨h1, h2, h3⟩ := crash1_pages (h c (List.mem_cons_self ..)) (howL keep i) hl
    obtain ⟨h4, h5, h6⟩ := crashL_pages keep ws (i + 1) _ (fun d hd => h d (List.mem_cons_of_mem _ hd)) h2
    exact ⟨Nat.le_trans h1 h4, h5, fun n hn => (h6 n hn).trans (h3 n hn)⟩
theorem LiesP.grow {l l' : List UInt8} {fs : List Fr} {n : Nat} {o : Option ByteArray} (h : LiesP l fs n o) (hl : l.length ≤ l'.length) (hz : lastAt fs n = 0 → zpg l' n = zpg l n) : LiesP l' fs n o := by
  unfold LiesP at h ⊢
  by_cases hk : lastAt fs n ≠ 0
  · rw [if_pos hk] at h ⊢; exact h
  · rw [if_neg hk] at h ⊢
    rw [hz (Classical.byContradiction hk)]
    exact ⟨h.1, fun ho => Nat.le_trans (h.2 ho) hl⟩
/-- a disk on which page-wide changes of the first file wait behind what waited -/
structure Wet (F : Nat → Prop) (D0 D : Dk) : Prop where
  l0 : D.l0 = D0.l0
  l1 : D.l1 = D0.l1
  waits : ∃ ws, D.waits = D0.waits ++ ws ∧ ∀ c ∈ ws, PgCh F c
theorem Wet.refl (F : Nat → Prop) (D : Dk) : Wet F D D := ⟨rfl, rfl, [], by simp, fun c hc => by cases hc⟩
theorem Wet.turn {F : Nat → Prop} {D0 D : Dk} (h : Wet F D0 D) : Wet F D0 D.turn := by
  obtain ⟨a, b, c⟩ := turn_lasts D
  exact ⟨a.trans h.l0, b.trans h.l1, by rw [c]; exact h.waits⟩
theorem Wet.change {F : Nat → Prop} {D0 D : Dk} (h : Wet F D0 D) {c : Ch} (hc : PgCh F c) : Wet F D0 (D.change c) := by
  obtain ⟨a, b, e⟩ := change_lasts D c
  refine ⟨a.trans h.l0, b.trans h.l1, ?_⟩
  obtain ⟨ws, h1, h2⟩ := h.waits
  rcases e with e | e
  · exact ⟨ws, e.trans h1, h2⟩
  · refine ⟨ws ++ [c], by rw [e, h1, List.append_assoc], fun d hd => ?_⟩
    rcases List.mem_append.1 hd with hd | hd
    · exact h2 d hd
    · rw [List.mem_singleton.1 hd]; exact hc
theorem wet_l1 {F : Nat → Prop} {D0 D : Dk} (h : Wet F D0 D) (keep : List Int) : (D.crash keep).l1 = (D0.crash keep).l1 := by
  obtain ⟨ws, h1, h2⟩ := h.waits
  show crashL keep D.waits 0 1 D.l1 = crashL keep D0.waits 0 1 D0.l1
  rw [h1, h.l1, crashL_append]
  exact crashL_none keep ws _ 1 _ fun c hc => by rw [(h2 c hc).1]; omega
theorem wet_l0 {F : Nat → Prop} {D0 D : Dk} (h : Wet F D0 D) (h0 : ∀ c ∈ D0.waits, c.file ≠ 0) (hl : D0.l0.length ≤ 6144) (keep : List Int) : D0.l0.length ≤ (D.crash keep).l0.length ∧ (D.crash keep).l0.length ≤ 6144 ∧ ∀ n, ¬ F n → zpg (D.crash keep).l0 n = zpg D0.l0 n := by
  obtain ⟨ws, h1, h2⟩ := h.waits
  have e : (D.crash keep).l0 = crashL keep ws (0 + D0.waits.length) 0 D0.l0 := by
    show crashL keep D.waits 0 0 D.l0 = _
    rw [h1, h.l0, crashL_append, crashL_none keep D0.waits 0 0 D0.l0 h0]
  rw [e]
  exact crashL_pages keep ws _ _ h2 hl
theorem wet_seen {F : Nat → Prop} {D0 D : Dk} (h : Wet F D0 D) (h0 : ∀ c ∈ D0.waits, c.file ≠ 0) (hl : D0.l0.length ≤ 6144) : D0.l0.length ≤ (D.seen 0).length ∧ (D.seen 0).length ≤ 6144 ∧ (∀ n, ¬ F n → zpg (D.seen 0) n = zpg D0.l0 n) ∧ D.seen 1 = D0.seen 1 := by
  have e : (D.crash [1]).l0 = D.seen 0 := seen_crash _ _ _ _
  have := wet_l0 h h0 hl [1]
  rw [e] at this
  refine ⟨this.1, this.2.1, this.2.2, ?_⟩
  have e1 : (D.crash [1]).l1 = D.seen 1 := seen_crash _ _ _ _
  have e2 : (D0.crash [1]).l1 = D0.seen 1 := seen_crash _ _ _ _
  rw [← e1, ← e2]; exact wet_l1 h [1]

/-! XKept9 -/
def Framed (L : Lg) (n : Nat) : Prop := lastAt L.fs n ≠ 0
def textOf (L : Lg) (m : Nat) : ByteArray := ((L.fs[lastAt L.fs m - 1]?).map (·.text)).getD ⟨#[]⟩
theorem textOf_size {L : Lg} (h : L.ok) {m : Nat} (hm : Framed L m) : (textOf L m).size = 1024 ∧ (L.fs[lastAt L.fs m - 1]?).map (·.text) = some (textOf L m) := by
  obtain ⟨f, hf, _⟩ := lastAt_get L.fs m hm
  unfold textOf
  rw [hf]
  exact ⟨(h.frames f (List.mem_of_getElem? hf)).2, rfl⟩
theorem put1_framed {L : Lg} (D : Dk) {m : Nat} (h : L.ok) (hm : m < 6) (hf : Framed L m) : L.put1 D m = D.change ⟨0, 1024 * m, textOf L m, false⟩ ∧ L.put1E D m = D.turnE := by
  have hs := (textOf_size h hf).1
  have hfit : fitsF (0 : Nat) (1024 * m : Nat) (textOf L m).size := fitsF_iff.2 ⟨by omega, by omega⟩
  refine ⟨(if_pos hf).trans ((if_pos hfit).trans ?_), (if_pos hf).trans (if_pos hfit)⟩
  rw [Int.toNat_natCast]; rfl
theorem put1_bare {L : Lg} (D : Dk) {m : Nat} (hf : ¬ Framed L m) : L.put1 D m = D ∧ L.put1E D m = 0 := ⟨if_neg hf, if_neg hf⟩
theorem stops_down {D : Dk} (h : D.turnE ≠ 0) : D.stops ∧ D.turn.down = true := by
  have hs : D.stops := Classical.byContradiction fun h2 => h ((turnE_zero D).2 h2)
  refine ⟨hs, ?_⟩
  unfold Dk.turn
  rw [if_pos hs]
theorem change_down {D : Dk} {c : Ch} (h : D.turnE ≠ 0) : (D.change c).down = true := by
  obtain ⟨h1, h2⟩ := stops_down h
  unfold Dk.change
  rw [if_pos h1]; exact h2
theorem put1_wet {L : Lg} (h : L.ok) {D0 D : Dk} (hw : Wet (Framed L) D0 D) {m : Nat} (hm : m < 6) : Wet (Framed L) D0 (L.put1 D m) ∧ (L.put1E D m ≠ 0 → (L.put1 D m).down = true) := by
  by_cases hf : Framed L m
  · obtain ⟨e1, e2⟩ := put1_framed D h hm hf
    rw [e1, e2]
    exact ⟨hw.change ⟨rfl, .inr ⟨rfl, m, hm, hf, rfl, (textOf_size h hf).1⟩⟩, fun h2 => change_down h2⟩
  · obtain ⟨e1, e2⟩ := put1_bare D hf
    rw [e1, e2]
    exact ⟨hw, fun h2 => absurd rfl h2⟩
theorem puts_wet {L : Lg} (h : L.ok) {D0 : Dk} : ∀ (k m : Nat) (D : Dk), m + k ≤ 6 → Wet (Framed L) D0 D → Wet (Framed L) D0 (L.puts k m D).1 ∧ ((L.puts k m D).2 ≠ 0 → (L.puts k m D).1.down = true)
  | 0, m, D, _, hw => ⟨hw, fun h2 => absurd rfl h2⟩
  | k + 1, m, D, hm, hw => by
    obtain ⟨a, b⟩ := put1_wet h hw (show m < 6 by omega)
    rw [Lg.puts]
    split
    · exact puts_wet h k (m + 1) _ (by omega) a
    · exact ⟨a, b⟩
theorem zpg_put {l t : List UInt8} {m : Nat} (hm : m < 6) (ht : t.length = 1024) : zpg (putL l (1024 * m) t) m = t := by
  refine List.ext_getElem? fun i => ?_
  unfold zpg
  rw [partL_get]
  split
  · rw [zt_putL _ _ _ _ _ (by omega), if_pos (by omega), show 1024 * m + i - 1024 * m = i by omega]
  · rw [List.getElem?_eq_none (by omega)]
theorem put1_seen {L : Lg} (h : L.ok) (D : Dk) {m : Nat} (hm : m < 6) (hl : (D.seen 0).length ≤ 6144) :
    (D.seen 0).length ≤ ((L.put1 D m).seen 0).length ∧ ((L.put1 D m).seen 0).length ≤ 6144 ∧ (∀ n, n ≠ m → zpg ((L.put1 D m).seen 0) n = zpg (D.seen 0) n) ∧
    (L.put1E D m = 0 → Framed L m → bsOf (zpg ((L.put1 D m).seen 0) m) = textOf L m ∧ 1024 * m + 1024 ≤ ((L.put1 D m).seen 0).length) := by
  by_cases hf : Framed L m
  · obtain ⟨e1, e2⟩ := put1_framed D h hm hf
    have hs := (textOf_size h hf).1
    rw [e1, e2]
    have hts : (textOf L m).data.toList.length = 1024 := by rw [Array.length_toList]; exact hs
    by_cases hst : D.stops
    · have e : D.change ⟨0, 1024 * m, textOf L m, false⟩ = D.turn := if_pos hst
      rw [e, D.turn_seen 0]
      exact ⟨Nat.le_refl _, hl, fun _ _ => rfl, fun h2 => absurd hst ((turnE_zero D).1 h2)⟩
    · rw [Dk.change_seen _ _ hst, if_pos rfl]
      have ed : Ch.done ⟨0, 1024 * m, textOf L m, false⟩ (D.seen 0) = putL (D.seen 0) (1024 * m) (textOf L m).data.toList := by
        unfold Ch.done
        rw [if_neg (show ¬ (false = true) by decide)]
      rw [ed]
      obtain ⟨p1, p2, p3⟩ := pages_put (F := fun n => n = m) (l := D.seen 0) (t := (textOf L m).data.toList) hm rfl (by omega) hl
      refine ⟨p1, p2, p3, fun _ _ => ⟨by rw [zpg_put hm hts, bsOf_of], by rw [putL_len]; omega⟩⟩
  · obtain ⟨e1, e2⟩ := put1_bare D hf
    rw [e1, e2]
    exact ⟨Nat.le_refl _, hl, fun _ _ => rfl, fun _ h2 => absurd h2 hf⟩
theorem puts_seen {L : Lg} (h : L.ok) : ∀ (k m : Nat) (D : Dk), m + k ≤ 6 → (D.seen 0).length ≤ 6144 → (L.puts k m D).2 = 0 →
    (D.seen 0).length ≤ ((L.puts k m D).1.seen 0).length ∧ ((L.puts k m D).1.seen 0).length ≤ 6144 ∧ (∀ n, n < m → zpg ((L.puts k m D).1.seen 0) n = zpg (D.seen 0) n) ∧
    (∀ n, m ≤ n → n < m + k → Framed L n → bsOf (zpg ((L.puts k m D).1.seen 0) n) = textOf L n ∧ 1024 * n + 1024 ≤ ((L.puts k m D).1.seen 0).length)
  | 0, m, D, _, hl, _ => ⟨Nat.le_refl _, hl, fun _ _ => rfl, fun n h1 h2 => by omega⟩
  | k + 1, m, D, hm, hl, he => by
    obtain ⟨a1, a2, a3, a4⟩ := put1_seen h D (show m < 6 by omega) hl
    rw [Lg.puts] at he ⊢
    by_cases h0 : L.put1E D m = 0
    · rw [if_pos h0] at he ⊢
      obtain ⟨b1, b2, b3, b4⟩ := puts_seen h k (m + 1) _ (by omega) a2 he
      refine ⟨Nat.le_trans a1 b1, b2, fun n hn => (b3 n (by omega)).trans (a3 n (by omega)), fun n h1 h2 hf => ?_⟩
      by_cases hn : n = m
      · subst hn
        obtain ⟨c1, c2⟩ := a4 h0 hf
        exact ⟨by rw [b3 n (by omega)]; exact c1, Nat.le_trans c2 b1⟩
      · exact b4 n (by omega) (by omega) hf
    · rw [if_neg h0] at he
      exact absurd he h0

end Go.Proofs.Ytjihboddejaelaa
