/-
  What a crash leaves of a log's files, in plain Lean (2): a commit that is told, half of it, a checkpoint's pages. No program in sight.
-/
import Derived.Test.YtjihboddejaelaaPk3
import Derived.Test.YtjihboddejaelaaPk2
import Derived.ProofKit
import Derived.OpenShut
import Derived.ShutString
import Derived.ChangeOld
import Derived.SizedLaws
import Derived.Deep.Slices
import Derived.Lib.SmallJoins
namespace Go.Proofs.Ytjihboddejaelaa
set_option linter.unusedVariables false
set_option linter.unusedSimpArgs false
open Go.RowKit
set_option linter.unusedVariables false
set_option linter.unusedSimpArgs false

/-! XKept5 -/
/-- the log's file with the other slot written -/
def toldL (L : Lg) (f p : Nat) : List UInt8 := putL L.D.l1 (16 + 24 * (1 - L.slot)) (slotL (L.number % 3 + 1) f p)
theorem told_file {L : Lg} (h : Synced L) (h64 : 64 ≤ L.D.l1.length) (f p : Nat) :
    (toldL L f p).length = L.D.l1.length ∧ (toldL L f p).take 16 = markL ∧ partL (toldL L f p) (16 + 24 * (1 - L.slot)) 24 = slotL (L.number % 3 + 1) f p ∧
    partL (toldL L f p) (16 + 24 * L.slot) 24 = slotL L.number L.kept L.pages ∧ ∀ a n, 64 ≤ a → a + n ≤ L.D.l1.length → partL (toldL L f p) a n = partL L.D.l1 a n := by
  have hs := h.safe.ok.slot
  have hz := slotL_len (L.number % 3 + 1) f p
  unfold toldL
  refine ⟨by rw [putL_len, hz]; omega, ?_, ?_, ?_, fun a n ha hn => partL_put hn (.inr (by rw [hz]; omega))⟩
  · have := partL_put (l := L.D.l1) (a := 16 + 24 * (1 - L.slot)) (t := slotL (L.number % 3 + 1) f p) (b := 0) (n := 16) (by omega) (.inl (by omega))
    rw [partL_zero, partL_zero] at this
    rw [this]; exact h.safe.mark
  · have := partL_put_same L.D.l1 (16 + 24 * (1 - L.slot)) (slotL (L.number % 3 + 1) f p)
    rw [hz] at this
    exact this
  · rw [partL_put (by omega) (by rw [hz]; omega)]
    exact h.safe.slot
theorem synced_seen {L : Lg} (h : Synced L) (k : Nat) : L.D.seen k = L.D.lasts k := by
  unfold Dk.seen
  rw [h.waits]; rfl
theorem told_lasts {L : Lg} (h : Synced L) (f p : Nat) (h1 : ¬ L.D.stops) (h2 : ¬ (L.tellD f p).stops) :
    ((L.tellD f p).sync 1).l0 = L.D.l0 ∧ ((L.tellD f p).sync 1).l1 = toldL L f p ∧ ((L.tellD f p).sync 1).waits = [] := by
  have hs := h.safe.ok.slot
  have hfit : (1 < 2 ∧ 16 + 24 * (1 - L.slot) + (bsOf (slotL (L.number % 3 + 1) f p)).size ≤ 67108864) := ⟨by omega, by rw [bsOf_size, slotL_len]; omega⟩
  have hD : L.tellD f p = L.D.change ⟨(1 : Int).toNat, ((16 + 24 * (1 - L.slot) : Nat) : Int).toNat, bsOf (slotL (L.number % 3 + 1) f p), false⟩ := if_pos (fitsF_iff.2 hfit)
  have hW : (L.tellD f p).waits = [⟨(1 : Int).toNat, ((16 + 24 * (1 - L.slot) : Nat) : Int).toNat, bsOf (slotL (L.number % 3 + 1) f p), false⟩] := by
    rw [hD]; unfold Dk.change; rw [if_neg h1]
    show L.D.waits ++ [_] = _
    rw [h.waits]; rfl
  have hL : (L.tellD f p).l0 = L.D.l0 := by rw [hD]; exact (change_lasts _ _).1
  have hS : (L.tellD f p).seen 1 = toldL L f p := by
    have := write_seen L.D 1 (16 + 24 * (1 - L.slot)) (bsOf (slotL (L.number % 3 + 1) f p)) 1
    rw [if_pos ⟨hfit, h1, rfl⟩, bsOf_list, synced_seen h] at this
    exact this
  have e : (L.tellD f p).sync 1 = (L.tellD f p).syncT 1 := by
    unfold Dk.sync
    rw [if_pos (by decide), if_neg h2]; rfl
  rw [e]
  refine ⟨hL, hS, ?_⟩
  show (L.tellD f p).waits.filter (fun c => decide (c.file ≠ 1)) = []
  rw [hW]
  rfl
theorem safe_tell {L : Lg} (h : Synced L) (h64 : 64 ≤ L.D.l1.length) {f p : Nat} (hf : f ≤ L.fs.length) (hp : p < 4294967296) (h1 : ¬ L.D.stops) (h2 : ¬ (L.tellD f p).stops) : Synced (L.tell f p) := by
  obtain ⟨t1, t2, t3, t4, t5⟩ := told_file h h64 f p
  obtain ⟨d0, d1, d2⟩ := told_lasts h f p h1 h2
  have hok := h.safe.ok.tell hf hp
  have hn := h.safe.num
  have hs := h.safe.ok.slot
  have hlen := h.safe.ok.len
  have e : L.tell f p = { L with D := (L.tellD f p).sync 1, slot := 1 - L.slot, number := L.number % 3 + 1, kept := f, pages := p } := (if_neg h1).trans (if_neg h2)
  rw [e] at hok ⊢
  generalize (L.tellD f p).sync 1 = X at *
  have hfl : ∀ (i : Nat) (g : Fr), L.fs[i]? = some g → 64 + 1028 * i + 1028 ≤ L.D.l1.length := fun i g hg => partL_full (synced_lies h hg) (Fr.bytes_len _ (h.safe.ok.frames g (List.mem_of_getElem? hg)).2) (by omega)
  refine ⟨⟨hok, ?_, ⟨by show 1 ≤ L.number % 3 + 1; omega, by show L.number % 3 + 1 ≤ 3; omega⟩, ?_, ?_, ?_, fun i g hi hg => ?_, fun c hc => ?_, fun c hc => ?_⟩, d2⟩
  · show X.l1.take 16 = _; rw [d1]; exact t2
  · show partL X.l1 _ _ = _; rw [d1]; exact t3
  · show OldSlot ((zt X.l1 (40 + 24 * (1 - (1 - L.slot)))).drop (16 + 24 * (1 - (1 - L.slot)))) (L.number % 3 + 1)
    rw [d1, show 1 - (1 - L.slot) = L.slot by omega]
    have ez : (zt (toldL L f p) (40 + 24 * L.slot)).drop (16 + 24 * L.slot) = partL (toldL L f p) (16 + 24 * L.slot) 24 := by
      rw [← partL_zt (B := 40 + 24 * L.slot) (by omega) (by omega)]
      unfold partL
      rw [List.take_of_length_le]
      rw [List.length_drop]
      unfold zt
      rw [List.length_take]; omega
    rw [ez, t4]
    have hk := h.safe.ok.kept
    exact .inr ⟨L.number, L.kept, L.pages, hn.1, hn.2, rfl, by omega, h.safe.ok.pages, rfl⟩
  · show f = 0 ∨ 64 + 1028 * f ≤ X.l1.length
    rw [d1, t1]
    rcases Nat.eq_zero_or_pos f with h0 | h0
    · exact .inl h0
    · have hfi : f - 1 < L.fs.length := by omega
      have := hfl (f - 1) _ (List.getElem?_eq_getElem hfi)
      exact .inr (by omega)
  · show partL X.l1 _ _ = _
    have hg2 : L.fs[i]? = some g := hg
    rw [d1, t5 _ _ (by omega) (hfl i g hg2)]
    exact synced_lies h hg2
  · have hc2 : c ∈ X.waits := hc
    rw [d2] at hc2; cases hc2
  · have hc2 : c ∈ X.waits := hc
    rw [d2] at hc2; cases hc2

/-! XKept6 -/
theorem zt_drop {l : List UInt8} {k : Nat} (h : 40 + 24 * k ≤ l.length) : (zt l (40 + 24 * k)).drop (16 + 24 * k) = partL l (16 + 24 * k) 24 := by
  rw [← partL_zt (B := 40 + 24 * k) (by omega) (by omega)]
  unfold partL
  rw [List.take_of_length_le]
  rw [List.length_drop]
  unfold zt
  rw [List.length_take]; omega
/-- the number in the second half of a slot that does not count is not the next one -/
theorem old_half {t : List UInt8} {N : Nat} (hN : 1 ≤ N ∧ N ≤ 3) (h : OldSlot t N) : unK (t.drop 12 |>.take 4) ≠ N % 3 + 1 := by
  rcases h with h | ⟨n, f, p, n1, n2, n3, _, _, h⟩
  · rw [h]
    have : unK ((List.replicate 24 (0 : UInt8)).drop 12 |>.take 4) = 0 := by decide
    rw [this]; omega
  · have e : (slotL n f p).drop 12 = beK n 4 ++ beK f 4 ++ beK p 4 := by
      unfold slotL
      rw [List.drop_append_of_le_length (by simp [beK_len]), List.drop_of_length_le (by simp [beK_len]), List.nil_append]
    rw [h, e, List.append_assoc, unK_take4 _ (by omega)]
    omega
def halfL (L : Lg) (f p : Nat) : List UInt8 := putL L.D.l1 (16 + 24 * (1 - L.slot)) ((slotL (L.number % 3 + 1) f p).take 12)
theorem half_told {L : Lg} (h : Synced L) (h64 : 64 ≤ L.D.l1.length) (f p : Nat) : (slotOf (halfL L f p) (1 - L.slot)).1 = 0 := by
  have hs := h.safe.ok.slot
  have hn := h.safe.num
  have hz : ((slotL (L.number % 3 + 1) f p).take 12).length = 12 := by rw [List.length_take, slotL_len]; omega
  have hlen : (halfL L f p).length = L.D.l1.length := by unfold halfL; rw [putL_len, hz]; omega
  have hold := h.safe.old
  rw [zt_drop (by omega)] at hold
  have ho := old_half hn hold
  refine Classical.byContradiction fun hc => ?_
  unfold slotOf at hc
  rw [if_neg (by omega)] at hc
  dsimp only at hc
  split at hc
  · exact hc rfl
  · rename_i hcond
    have heq : (partL (halfL L f p) (16 + 24 * (1 - L.slot)) 24).take 12 = (partL (halfL L f p) (16 + 24 * (1 - L.slot)) 24).drop 12 := Classical.byContradiction fun h3 => hcond (.inl h3)
    have e1 : (partL (halfL L f p) (16 + 24 * (1 - L.slot)) 24).take 12 = (slotL (L.number % 3 + 1) f p).take 12 := by
      have := partL_put_same L.D.l1 (16 + 24 * (1 - L.slot)) ((slotL (L.number % 3 + 1) f p).take 12)
      rw [hz] at this
      refine Eq.trans ?_ this
      unfold halfL partL
      rw [List.take_take]; rfl
    have e2 : (partL (halfL L f p) (16 + 24 * (1 - L.slot)) 24).drop 12 = (partL L.D.l1 (16 + 24 * (1 - L.slot)) 24).drop 12 := by
      refine List.ext_getElem? fun i => ?_
      rw [List.getElem?_drop, List.getElem?_drop, partL_get, partL_get]
      split
      · unfold halfL
        rw [putL_get, if_neg (by rw [hz]; omega), zerosTo_get _ _ _ (by omega)]
      · rfl
    rw [e1, e2] at heq
    have h4 := congrArg (fun x : List UInt8 => unK (x.take 4)) heq
    rw [List.take_take, show min 4 12 = 4 from rfl, slotL_parts12, unK_beK4 (by omega)] at h4
    exact ho h4.symm
/-- what is read behind a half told commit -/
theorem half_reads {L : Lg} (h : Synced L) (h64 : 64 ≤ L.D.l1.length) (f p : Nat) : slotIx (halfL L f p) = L.slot ∧ slotOf (halfL L f p) L.slot = (L.number, L.kept, L.pages) ∧ framesOf (halfL L f p) L.kept = L.fs.take L.kept := by
  have hs := h.safe.ok.slot
  have hlenL := h.safe.ok.len
  have hkl := h.safe.ok.kept
  have hz : ((slotL (L.number % 3 + 1) f p).take 12).length = 12 := by rw [List.length_take, slotL_len]; omega
  have hlen : (halfL L f p).length = L.D.l1.length := by unfold halfL; rw [putL_len, hz]; omega
  have hpart : ∀ a n, a + n ≤ L.D.l1.length → (a + n ≤ 16 + 24 * (1 - L.slot) ∨ 28 + 24 * (1 - L.slot) ≤ a) → partL (halfL L f p) a n = partL L.D.l1 a n := fun a n h1 h2 => by
    unfold halfL
    exact partL_put h1 (h2.imp id (fun h3 => by rw [hz]; omega))
  have hsl := partL_full h.safe.slot (slotL_len _ _ _) (by omega)
  have em : (halfL L f p).take 16 = markL := by
    have := hpart 0 16 (by omega) (.inl (by omega))
    rw [partL_zero, partL_zero] at this
    rw [this]; exact h.safe.mark
  have es : slotOf (halfL L f p) L.slot = (L.number, L.kept, L.pages) :=
    slotOf_slotL (by omega) ((hpart _ 24 (by omega) (by omega)).trans h.safe.slot) h.safe.num (by omega) h.safe.ok.pages (by
      rcases h.safe.top with h2 | h2
      · exact .inl h2
      · exact .inr (by omega))
  refine ⟨ix_of em hs h.safe.num es (.inl (half_told h h64 f p)), es, ?_⟩
  refine List.ext_getElem? fun i => ?_
  rw [List.getElem?_take]
  by_cases hi : i < L.kept
  · have hil : i < L.fs.length := by omega
    have hf := List.getElem?_eq_getElem hil
    have hb := synced_lies h hf
    have hfr := h.safe.ok.frames _ (List.getElem_mem hil)
    have hfull := partL_full hb (Fr.bytes_len _ hfr.2) (by omega)
    have hfa := frameAt_bytes ((hpart _ 1028 hfull (.inr (by omega))).trans hb) hfr.1 hfr.2
    rw [if_pos hi, hf]
    have hli : i < (framesOf (halfL L f p) L.kept).length := by rw [framesOf_len]; exact hi
    have hg := List.getElem?_eq_getElem hli
    rw [hg, (framesOf_get _ _ _ _ hg).2, hfa]
  · rw [if_neg hi, List.getElem?_eq_none (by rw [framesOf_len]; omega)]

/-! XKept7 -/
/-- what is read where the commit was told whole -/
theorem told_reads {L : Lg} (h : Synced L) (h64 : 64 ≤ L.D.l1.length) {f p : Nat} (hf : f ≤ L.fs.length) (hp : p < 4294967296) : slotIx (toldL L f p) = 1 - L.slot ∧ slotOf (toldL L f p) (1 - L.slot) = (L.number % 3 + 1, f, p) ∧ framesOf (toldL L f p) f = L.fs.take f := by
  obtain ⟨t1, t2, t3, t4, t5⟩ := told_file h h64 f p
  have hn := h.safe.num
  have hs := h.safe.ok.slot
  have hlen := h.safe.ok.len
  have hk := h.safe.ok.kept
  have hfl : ∀ (i : Nat) (g : Fr), L.fs[i]? = some g → 64 + 1028 * i + 1028 ≤ L.D.l1.length := fun i g hg => partL_full (synced_lies h hg) (Fr.bytes_len _ (h.safe.ok.frames g (List.mem_of_getElem? hg)).2) (by omega)
  have es : slotOf (toldL L f p) (1 - L.slot) = (L.number % 3 + 1, f, p) := slotOf_slotL (by omega) t3 (by omega) (by omega) hp (by
    rcases Nat.eq_zero_or_pos f with h0 | h0
    · exact .inl h0
    · have hfi : f - 1 < L.fs.length := by omega
      have := hfl (f - 1) _ (List.getElem?_eq_getElem hfi)
      exact .inr (by omega))
  have eo := old_told (l := toldL L f p) (k := L.slot) (N := L.number % 3 + 1) (by
    rw [zt_drop (by omega), t4]
    exact .inr ⟨L.number, L.kept, L.pages, hn.1, hn.2, rfl, by omega, h.safe.ok.pages, rfl⟩)
  refine ⟨ix_of t2 (by omega) (by omega) es (by rw [show 1 - (1 - L.slot) = L.slot by omega]; exact eo), es, ?_⟩
  refine List.ext_getElem? fun i => ?_
  rw [List.getElem?_take]
  by_cases hi : i < f
  · have hil : i < L.fs.length := by omega
    have hfi := List.getElem?_eq_getElem hil
    have hfr := h.safe.ok.frames _ (List.getElem_mem hil)
    have hfa := frameAt_bytes ((t5 _ 1028 (by omega) (hfl i _ hfi)).trans (synced_lies h hfi)) hfr.1 hfr.2
    rw [if_pos hi, hfi]
    have hli : i < (framesOf (toldL L f p) f).length := by rw [framesOf_len]; exact hi
    have hg := List.getElem?_eq_getElem hli
    rw [hg, (framesOf_get _ _ _ _ hg).2, hfa]
  · rw [if_neg hi, List.getElem?_eq_none (by rw [framesOf_len]; omega)]
/-- the disk in the midst of telling: the slot is written, and its sync stopped -/
theorem mid_waits {L : Lg} (h : Synced L) (f p : Nat) (h1 : ¬ L.D.stops) (h2 : (L.tellD f p).stops) :
    ((L.tellD f p).sync 1).l0 = L.D.l0 ∧ ((L.tellD f p).sync 1).l1 = L.D.l1 ∧ ((L.tellD f p).sync 1).waits = [⟨1, 16 + 24 * (1 - L.slot), bsOf (slotL (L.number % 3 + 1) f p), false⟩] := by
  have hfit : (1 < 2 ∧ 16 + 24 * (1 - L.slot) + (bsOf (slotL (L.number % 3 + 1) f p)).size ≤ 67108864) := ⟨by omega, by rw [bsOf_size, slotL_len]; omega⟩
  have hD : L.tellD f p = L.D.change ⟨(1 : Int).toNat, ((16 + 24 * (1 - L.slot) : Nat) : Int).toNat, bsOf (slotL (L.number % 3 + 1) f p), false⟩ := if_pos (fitsF_iff.2 hfit)
  have e : (L.tellD f p).sync 1 = (L.tellD f p).turn := by
    unfold Dk.sync
    rw [if_pos (by decide), if_pos h2]
  obtain ⟨a1, a2, a3⟩ := turn_lasts (L.tellD f p)
  rw [e, a1, a2, a3, hD]
  obtain ⟨b1, b2, _⟩ := change_lasts L.D ⟨(1 : Int).toNat, ((16 + 24 * (1 - L.slot) : Nat) : Int).toNat, bsOf (slotL (L.number % 3 + 1) f p), false⟩
  refine ⟨b1, b2, ?_⟩
  unfold Dk.change
  rw [if_neg h1]
  show L.D.waits ++ [_] = _
  rw [h.waits, Int.toNat_natCast]; rfl
theorem mid_crash {L : Lg} (h : Synced L) (h64 : 64 ≤ L.D.l1.length) {f p : Nat} (hf : f ≤ L.fs.length) (hp : p < 4294967296) (h1 : ¬ L.D.stops) (h2 : (L.tellD f p).stops) (keep : List Int) :
    (((L.tellD f p).sync 1).crash keep).l0 = L.D.l0 ∧
    ((slotIx (((L.tellD f p).sync 1).crash keep).l1 = L.slot ∧ slotOf (((L.tellD f p).sync 1).crash keep).l1 L.slot = (L.number, L.kept, L.pages) ∧ framesOf (((L.tellD f p).sync 1).crash keep).l1 L.kept = L.fs.take L.kept) ∨
     (slotIx (((L.tellD f p).sync 1).crash keep).l1 = 1 - L.slot ∧ slotOf (((L.tellD f p).sync 1).crash keep).l1 (1 - L.slot) = (L.number % 3 + 1, f, p) ∧ framesOf (((L.tellD f p).sync 1).crash keep).l1 f = L.fs.take f)) := by
  obtain ⟨w0, w1, w2⟩ := mid_waits h f p h1 h2
  generalize (L.tellD f p).sync 1 = X at *
  have e0 : (X.crash keep).l0 = L.D.l0 := by
    show crashL keep X.waits 0 0 X.l0 = _
    rw [w2, w0]
    exact crashL_none keep _ 0 0 _ (fun c hc => by rw [List.mem_singleton.1 hc]; show (1 : Nat) ≠ 0; omega)
  have e1 : (X.crash keep).l1 = crash1 ⟨1, 16 + 24 * (1 - L.slot), bsOf (slotL (L.number % 3 + 1) f p), false⟩ (howL keep 0) L.D.l1 1 := by
    show crashL keep X.waits 0 1 X.l1 = _
    rw [w2, w1]; rfl
  refine ⟨e0, ?_⟩
  rw [e1]
  unfold crash1
  rw [if_pos rfl]
  by_cases k1 : howL keep 0 = 1
  · rw [if_pos k1]
    have e2 : Ch.done ⟨1, 16 + 24 * (1 - L.slot), bsOf (slotL (L.number % 3 + 1) f p), false⟩ L.D.l1 = toldL L f p := by
      unfold Ch.done toldL
      rw [if_neg (show ¬ (false = true) by decide), bsOf_list]
    rw [e2]
    exact .inr (told_reads h h64 hf hp)
  · rw [if_neg k1]
    by_cases k2 : howL keep 0 = 2
    · rw [if_pos k2]
      have e2 : Ch.done (Ch.half ⟨1, 16 + 24 * (1 - L.slot), bsOf (slotL (L.number % 3 + 1) f p), false⟩) L.D.l1 = halfL L f p := by
        unfold Ch.half
        rw [if_neg (show ¬ (false = true) by decide)]
        unfold Ch.done halfL
        rw [if_neg (by show ¬ (false = true); decide)]
        show putL L.D.l1 (16 + 24 * (1 - L.slot)) ((bsOf (slotL (L.number % 3 + 1) f p)).extract 0 ((bsOf (slotL (L.number % 3 + 1) f p)).size / 2)).data.toList = _
        rw [bsOf_size, slotL_len, extr_part, bsOf_list, bsOf_list]
        rfl
      rw [e2]
      exact .inl (half_reads h h64 f p)
    · rw [if_neg k2]
      have := after_crash h.safe []
      have e3 : (L.D.crash []).l1 = L.D.l1 := by
        show crashL [] L.D.waits 0 1 L.D.l1 = _
        rw [h.waits]; rfl
      rw [e3] at this
      exact .inl ⟨this.2.1, this.2.2.1, this.2.2.2⟩

/-! XKept8 -/
def zpg (l : List UInt8) (n : Nat) : List UInt8 := partL (zt l 6144) (1024 * n) 1024
def zeroPage : ByteArray := bsOf (List.replicate 1024 0)
/-- page n is told as o by frames and the first file -/
def LiesP (l0 : List UInt8) (fs : List Fr) (n : Nat) (o : Option ByteArray) : Prop :=
  if lastAt fs n ≠ 0 then (fs[lastAt fs n - 1]?).map (·.text) = o
  else bsOf (zpg l0 n) = o.getD zeroPage ∧ (o ≠ none → 1024 * n + 1024 ≤ l0.length)
def Holds (l0 : List UInt8) (fs : List Fr) (K : Nat → Option ByteArray) : Prop := ∀ n, n < 6 → LiesP l0 fs n (K n)
theorem zpg_ext {l l' : List UInt8} {n : Nat} (h : ∀ i, 1024 * n ≤ i → i < 1024 * n + 1024 → i < 6144 → (zt l' 6144)[i]? = (zt l 6144)[i]?) : zpg l' n = zpg l n := by
  refine List.ext_getElem? fun i => ?_
  unfold zpg
  rw [partL_get, partL_get]
  split
  · by_cases hi : 1024 * n + i < 6144
    · exact h _ (by omega) (by omega) hi
    · rw [zt_get, zt_get, if_neg hi, if_neg hi]
  · rfl
theorem zt_putL (l t : List UInt8) (a B i : Nat) (hi : i < B) : (zt (putL l a t) B)[i]? = if a ≤ i ∧ i < a + t.length then t[i - a]? else (zt l B)[i]? := by
  rw [zt_get, if_pos hi, putL_get, putL_len, zt_get, if_pos hi, zerosTo_get2]
  by_cases h : a ≤ i ∧ i < a + t.length
  · rw [if_pos h, if_pos h, if_pos (by omega)]
  · rw [if_neg h, if_neg h]
    by_cases h1 : i < l.length
    · rw [if_pos h1, if_pos h1, if_pos (by omega)]
    · rw [if_neg h1, if_neg h1]
      by_cases h2 : i < a + t.length
      · rw [if_pos h2, if_pos (by omega)]
      · rw [if_neg (by omega)]
theorem zt_len {l : List UInt8} {B : Nat} : (zt l B).length = B := by
  unfold zt
  rw [List.length_take, zerosTo_len]; omega
theorem zt_zt {l : List UInt8} {B : Nat} : zt (zt l B) B = zt l B := by
  unfold zt
  rw [zerosTo_big (by rw [List.length_take, zerosTo_len]; omega), List.take_take, Nat.min_self]
/-- a change of the first file: a page of those that F tells is written, or the file is cut to six pages -/
def PgCh (F : Nat → Prop) (c : Ch) : Prop := c.file = 0 ∧ ((c.cut = true ∧ c.at_ = 6144) ∨ (c.cut = false ∧ ∃ m, m < 6 ∧ F m ∧ c.at_ = 1024 * m ∧ c.text.size = 1024))
theorem pages_put {F : Nat → Prop} {l t : List UInt8} {m : Nat} (hm : m < 6) (hF : F m) (ht : t.length ≤ 1024) (hl : l.length ≤ 6144) : l.length ≤ (putL l (1024 * m) t).length ∧ (putL l (1024 * m) t).length ≤ 6144 ∧ ∀ n, ¬ F n → zpg (putL l (1024 * m) t) n = zpg l n := by
  refine ⟨by rw [putL_len]; omega, by rw [putL_len]; omega, fun n hn => zpg_ext fun i h1 h2 h3 => ?_⟩
  rw [zt_putL _ _ _ _ _ h3, if_neg]
  intro h4
  have : n = m := by omega
  subst this; exact hn hF
theorem crash1_pages {F : Nat → Prop} {c : Ch} (hc : PgCh F c) (how : Int) {l : List UInt8} (hl : l.length ≤ 6144) : l.length ≤ (crash1 c how l 0).length ∧ (crash1 c how l 0).length ≤ 6144 ∧ ∀ n, ¬ F n → zpg (crash1 c how l 0) n = zpg l n := by
  have hcut : c.cut = true → c.at_ = 6144 → l.length ≤ (c.done l).length ∧ (c.done l).length ≤ 6144 ∧ ∀ n, ¬ F n → zpg (c.done l) n = zpg l n := fun h1 h2 => by
    have e : c.done l = zt l 6144 := by unfold Ch.done; rw [if_pos h1, h2]; rfl
    rw [e, zt_len]
    exact ⟨hl, Nat.le_refl _, fun n _ => by unfold zpg; rw [zt_zt]⟩
  unfold crash1
  obtain ⟨hf, hk⟩ := hc
  rw [if_pos hf]
  rcases hk with ⟨h1, h2⟩ | ⟨h1, m, hm, hF, ha, hs⟩
  · split
    · exact hcut h1 h2
    · split
      · have e : c.half = c := by unfold Ch.half; rw [if_pos h1]
        rw [e]; exact hcut h1 h2
      · exact ⟨Nat.le_refl _, hl, fun _ _ => rfl⟩
  · have hn : ¬ c.cut = true := by rw [h1]; decide
    split
    · unfold Ch.done
      rw [if_neg hn, ha]
      exact pages_put hm hF (by rw [Array.length_toList]; show c.text.size ≤ _; omega) hl
    · split
      · unfold Ch.half
        rw [if_neg hn]
        unfold Ch.done
        rw [if_neg (show ¬ c.cut = true from hn)]
        show l.length ≤ (putL l c.at_ _).length ∧ _
        dsimp only
        rw [ha]
        exact pages_put hm hF (by rw [Array.length_toList]; show (c.text.extract 0 (c.text.size / 2)).size ≤ _; rw [ByteArray.size_extract]; omega) hl
      · exact ⟨Nat.le_refl _, hl, fun _ _ => rfl⟩
theorem crashL_pages (keep : List Int) {F : Nat → Prop} : ∀ (ws : List Ch) (i : Nat) (l : List UInt8), (∀ c ∈ ws, PgCh F c) → l.length ≤ 6144 → l.length ≤ (crashL keep ws i 0 l).length ∧ (crashL keep ws i 0 l).length ≤ 6144 ∧ ∀ n, ¬ F n → zpg (crashL keep ws i 0 l) n = zpg l n
  | [], i, l, _, hl => ⟨Nat.le_refl _, hl, fun _ _ => rfl⟩
  | c :: ws, i, l, h, hl => by
    obtain ⟨h1, h2, h3⟩ := crash1_pages (h c (List.mem_cons_self ..)) (howL keep i) hl
    obtain ⟨h4, h5, h6⟩ := crashL_pages keep ws (i + 1) _ (fun d hd => h d (List.mem_cons_of_mem _ hd)) h2
    exact ⟨Nat.le_trans h1 h4, h5, fun n hn => (h6 n hn).trans (h3 n hn)⟩
theorem LiesP.grow {l l' : List UInt8} {fs : List Fr} {n : Nat} {o : Option ByteArray} (h : LiesP l fs n o) (hl : l.length ≤ l'.length) (hz : lastAt fs n = 0 → zpg l' n = zpg l n) : LiesP l' fs n o := by
  unfold LiesP at h ⊢
  by_cases hk : lastAt fs n ≠ 0
  · rw [if_pos hk] at h ⊢; exact h
  · rw [if_neg hk] at h ⊢
    rw [hz (Classical.byContradiction hk)]
    exact ⟨h.1, fun ho => Nat.le_trans (h.2 ho) hl⟩
/-- a disk on which page-wide changes of the first file wait behind what waited -/
structure Wet (F : Nat → Prop) (D0 D : Dk) : Prop where
  l0 : D.l0 = D0.l0
  l1 : D.l1 = D0.l1
  waits : ∃ ws, D.waits = D0.waits ++ ws ∧ ∀ c ∈ ws, PgCh F c
theorem Wet.refl (F : Nat → Prop) (D : Dk) : Wet F D D := ⟨rfl, rfl, [], by simp, fun c hc => by cases hc⟩
theorem Wet.turn {F : Nat → Prop} {D0 D : Dk} (h : Wet F D0 D) : Wet F D0 D.turn := by
  obtain ⟨a, b, c⟩ := turn_lasts D
  exact ⟨a.trans h.l0, b.trans h.l1, by rw [c]; exact h.waits⟩
theorem Wet.change {F : Nat → Prop} {D0 D : Dk} (h : Wet F D0 D) {c : Ch} (hc : PgCh F c) : Wet F D0 (D.change c) := by
  obtain ⟨a, b, e⟩ := change_lasts D c
  refine ⟨a.trans h.l0, b.trans h.l1, ?_⟩
  obtain ⟨ws, h1, h2⟩ := h.waits
  rcases e with e | e
  · exact ⟨ws, e.trans h1, h2⟩
  · refine ⟨ws ++ [c], by rw [e, h1, List.append_assoc], fun d hd => ?_⟩
    rcases List.mem_append.1 hd with hd | hd
    · exact h2 d hd
    · rw [List.mem_singleton.1 hd]; exact hc
theorem wet_l1 {F : Nat → Prop} {D0 D : Dk} (h : Wet F D0 D) (keep : List Int) : (D.crash keep).l1 = (D0.crash keep).l1 := by
  obtain ⟨ws, h1, h2⟩ := h.waits
  show crashL keep D.waits 0 1 D.l1 = crashL keep D0.waits 0 1 D0.l1
  rw [h1, h.l1, crashL_append]
  exact crashL_none keep ws _ 1 _ fun c hc => by rw [(h2 c hc).1]; omega
theorem wet_l0 {F : Nat → Prop} {D0 D : Dk} (h : Wet F D0 D) (h0 : ∀ c ∈ D0.waits, c.file ≠ 0) (hl : D0.l0.length ≤ 6144) (keep : List Int) : D0.l0.length ≤ (D.crash keep).l0.length ∧ (D.crash keep).l0.length ≤ 6144 ∧ ∀ n, ¬ F n → zpg (D.crash keep).l0 n = zpg D0.l0 n := by
  obtain ⟨ws, h1, h2⟩ := h.waits
  have e : (D.crash keep).l0 = crashL keep ws (0 + D0.waits.length) 0 D0.l0 := by
    show crashL keep D.waits 0 0 D.l0 = _
    rw [h1, h.l0, crashL_append, crashL_none keep D0.waits 0 0 D0.l0 h0]
  rw [e]
  exact crashL_pages keep ws _ _ h2 hl
theorem wet_seen {F : Nat → Prop} {D0 D : Dk} (h : Wet F D0 D) (h0 : ∀ c ∈ D0.waits, c.file ≠ 0) (hl : D0.l0.length ≤ 6144) : D0.l0.length ≤ (D.seen 0).length ∧ (D.seen 0).length ≤ 6144 ∧ (∀ n, ¬ F n → zpg (D.seen 0) n = zpg D0.l0 n) ∧ D.seen 1 = D0.seen 1 := by
  have e : (D.crash [1]).l0 = D.seen 0 := seen_crash _ _ _ _
  have := wet_l0 h h0 hl [1]
  rw [e] at this
  refine ⟨this.1, this.2.1, this.2.2, ?_⟩
  have e1 : (D.crash [1]).l1 = D.seen 1 := seen_crash _ _ _ _
  have e2 : (D0.crash [1]).l1 = D0.seen 1 := seen_crash _ _ _ _
  rw [← e1, ← e2]; exact wet_l1 h [1]

/-! XKept9 -/
def Framed (L : Lg) (n : Nat) : Prop := lastAt L.fs n ≠ 0
def textOf (L : Lg) (m : Nat) : ByteArray := ((L.fs[lastAt L.fs m - 1]?).map (·.text)).getD ⟨#[]⟩
theorem textOf_size {L : Lg} (h : L.ok) {m : Nat} (hm : Framed L m) : (textOf L m).size = 1024 ∧ (L.fs[lastAt L.fs m - 1]?).map (·.text) = some (textOf L m) := by
  obtain ⟨f, hf, _⟩ := lastAt_get L.fs m hm
  unfold textOf
  rw [hf]
  exact ⟨(h.frames f (List.mem_of_getElem? hf)).2, rfl⟩
theorem put1_framed {L : Lg} (D : Dk) {m : Nat} (h : L.ok) (hm : m < 6) (hf : Framed L m) : L.put1 D m = D.change ⟨0, 1024 * m, textOf L m, false⟩ ∧ L.put1E D m = D.turnE := by
  have hs := (textOf_size h hf).1
  have hfit : fitsF (0 : Nat) (1024 * m : Nat) (textOf L m).size := fitsF_iff.2 ⟨by omega, by omega⟩
  refine ⟨(if_pos hf).trans ((if_pos hfit).trans ?_), (if_pos hf).trans (if_pos hfit)⟩
  rw [Int.toNat_natCast]; rfl
theorem put1_bare {L : Lg} (D : Dk) {m : Nat} (hf : ¬ Framed L m) : L.put1 D m = D ∧ L.put1E D m = 0 := ⟨if_neg hf, if_neg hf⟩
theorem stops_down {D : Dk} (h : D.turnE ≠ 0) : D.stops ∧ D.turn.down = true := by
  have hs : D.stops := Classical.byContradiction fun h2 => h ((turnE_zero D).2 h2)
  refine ⟨hs, ?_⟩
  unfold Dk.turn
  rw [if_pos hs]
theorem change_down {D : Dk} {c : Ch} (h : D.turnE ≠ 0) : (D.change c).down = true := by
  obtain ⟨h1, h2⟩ := stops_down h
  unfold Dk.change
  rw [if_pos h1]; exact h2
theorem put1_wet {L : Lg} (h : L.ok) {D0 D : Dk} (hw : Wet (Framed L) D0 D) {m : Nat} (hm : m < 6) : Wet (Framed L) D0 (L.put1 D m) ∧ (L.put1E D m ≠ 0 → (L.put1 D m).down = true) := by
  by_cases hf : Framed L m
  · obtain ⟨e1, e2⟩ := put1_framed D h hm hf
    rw [e1, e2]
    exact ⟨hw.change ⟨rfl, .inr ⟨rfl, m, hm, hf, rfl, (textOf_size h hf).1⟩⟩, fun h2 => change_down h2⟩
  · obtain ⟨e1, e2⟩ := put1_bare D hf
    rw [e1, e2]
    exact ⟨hw, fun h2 => absurd rfl h2⟩
theorem puts_wet {L : Lg} (h : L.ok) {D0 : Dk} : ∀ (k m : Nat) (D : Dk), m + k ≤ 6 → Wet (Framed L) D0 D → Wet (Framed L) D0 (L.puts k m D).1 ∧ ((L.puts k m D).2 ≠ 0 → (L.puts k m D).1.down = true)
  | 0, m, D, _, hw => ⟨hw, fun h2 => absurd rfl h2⟩
  | k + 1, m, D, hm, hw => by
    obtain ⟨a, b⟩ := put1_wet h hw (show m < 6 by omega)
    rw [Lg.puts]
    split
    · exact puts_wet h k (m + 1) _ (by omega) a
    · exact ⟨a, b⟩
theorem zpg_put {l t : List UInt8} {m : Nat} (hm : m < 6) (ht : t.length = 1024) : zpg (putL l (1024 * m) t) m = t := by
  refine List.ext_getElem? fun i => ?_
  unfold zpg
  rw [partL_get]
  split
  · rw [zt_putL _ _ _ _ _ (by omega), if_pos (by omega), show 1024 * m + i - 1024 * m = i by omega]
  · rw [List.getElem?_eq_none (by omega)]
theorem put1_seen {L : Lg} (h : L.ok) (D : Dk) {m : Nat} (hm : m < 6) (hl : (D.seen 0).length ≤ 6144) :
    (D.seen 0).length ≤ ((L.put1 D m).seen 0).length ∧ ((L.put1 D m).seen 0).length ≤ 6144 ∧ (∀ n, n ≠ m → zpg ((L.put1 D m).seen 0) n = zpg (D.seen 0) n) ∧
    (L.put1E D m = 0 → Framed L m → bsOf (zpg ((L.put1 D m).seen 0) m) = textOf L m ∧ 1024 * m + 1024 ≤ ((L.put1 D m).seen 0).length) := by
  by_cases hf : Framed L m
  · obtain ⟨e1, e2⟩ := put1_framed D h hm hf
    have hs := (textOf_size h hf).1
    rw [e1, e2]
    have hts : (textOf L m).data.toList.length = 1024 := by rw [Array.length_toList]; exact hs
    by_cases hst : D.stops
    · have e : D.change ⟨0, 1024 * m, textOf L m, false⟩ = D.turn := if_pos hst
      rw [e, D.turn_seen 0]
      exact ⟨Nat.le_refl _, hl, fun _ _ => rfl, fun h2 => absurd hst ((turnE_zero D).1 h2)⟩
    · rw [Dk.change_seen _ _ hst, if_pos rfl]
      have ed : Ch.done ⟨0, 1024 * m, textOf L m, false⟩ (D.seen 0) = putL (D.seen 0) (1024 * m) (textOf L m).data.toList := by
        unfold Ch.done
        rw [if_neg (show ¬ (false = true) by decide)]
      rw [ed]
      obtain ⟨p1, p2, p3⟩ := pages_put (F := fun n => n = m) (l := D.seen 0) (t := (textOf L m).data.toList) hm rfl (by omega) hl
      refine ⟨p1, p2, p3, fun _ _ => ⟨by rw [zpg_put hm hts, bsOf_of], by rw [putL_len]; omega⟩⟩
  · obtain ⟨e1, e2⟩ := put1_bare D hf
    rw [e1, e2]
    exact ⟨Nat.le_refl _, hl, fun _ _ => rfl, fun _ h2 => absurd h2 hf⟩
theorem puts_seen {L : Lg} (h : L.ok) : ∀ (k m : Nat) (D : Dk), m + k ≤ 6 → (D.seen 0).length ≤ 6144 → (L.puts k m D).2 = 0 →
    (D.seen 0).length ≤ ((L.puts k m D).1.seen 0).length ∧ ((L.puts k m D).1.seen 0).length ≤ 6144 ∧ (∀ n, n < m → zpg ((L.puts k m D).1.seen 0) n = zpg (D.seen 0) n) ∧
    (∀ n, m ≤ n → n < m + k → Framed L n → bsOf (zpg ((L.puts k m D).1.seen 0) n) = textOf L n ∧ 1024 * n + 1024 ≤ ((L.puts k m D).1.seen 0).length)
  | 0, m, D, _, hl, _ => ⟨Nat.le_refl _, hl, fun _ _ => rfl, fun n h1 h2 => by omega⟩
  | k + 1, m, D, hm, hl, he => by
    obtain ⟨a1, a2, a3, a4⟩ := put1_seen h D (show m < 6 by omega) hl
    rw [Lg.puts] at he ⊢
    by_cases h0 : L.put1E D m = 0
    · rw [if_pos h0] at he ⊢
      obtain ⟨b1, b2, b3, b4⟩ := puts_seen h k (m + 1) _ (by omega) a2 he
      refine ⟨Nat.le_trans a1 b1, b2, fun n hn => (b3 n (by omega)).trans (a3 n (by omega)), fun n h1 h2 hf => ?_⟩
      by_cases hn : n = m
      · subst hn
        obtain ⟨c1, c2⟩ := a4 h0 hf
        exact ⟨by rw [b3 n (by omega)]; exact c1, Nat.le_trans c2 b1⟩
      · exact b4 n (by omega) (by omega) hf
    · rw [if_neg h0] at he
      exact absurd he h0

end Go.Proofs.Ytjihboddejaelaa

/-
  What a crash leaves of a log's files, in plain Lean (3): all operations; the first log; what a log that is opened anew reads. No program in sight.
-/
namespace Go.Proofs.Ytjihboddejaelaa
set_option linter.unusedVariables false
set_option linter.unusedSimpArgs false
open Go.RowKit
set_option linter.unusedVariables false
set_option linter.unusedSimpArgs false

/-! XKept10 -/
/-- what two files tell -/
def TellsL (l0 l1 : List UInt8) (K : Nat → Option ByteArray) : Prop := slotIx l1 ≠ 2 ∧ Holds l0 (framesOf l1 (slotOf l1 (slotIx l1)).2.1) K
theorem TellsL.of {l0 l1 : List UInt8} {K : Nat → Option ByteArray} {sl N f p : Nat} {fs : List Fr} (h : slotIx l1 = sl ∧ slotOf l1 sl = (N, f, p) ∧ framesOf l1 f = fs) (hs : sl < 2) (hk : Holds l0 fs K) : TellsL l0 l1 K := by
  obtain ⟨h1, h2, h3⟩ := h
  unfold TellsL
  rw [h1, h2, h3]
  exact ⟨by omega, hk⟩
theorem safe_tells {L : Lg} (h : Safe L) {K : Nat → Option ByteArray} (hk : Holds L.D.l0 (L.fs.take L.kept) K) (keep : List Int) : TellsL (L.D.crash keep).l0 (L.D.crash keep).l1 K := by
  obtain ⟨a0, a1⟩ := after_crash h keep
  rw [a0]
  exact .of a1 h.ok.slot hk
theorem mid_one {L : Lg} (h : Synced L) (h64 : 64 ≤ L.D.l1.length) {f p : Nat} (hf : f ≤ L.fs.length) (hp : p < 4294967296) (how : Int) :
    (slotIx (crash1 ⟨1, 16 + 24 * (1 - L.slot), bsOf (slotL (L.number % 3 + 1) f p), false⟩ how L.D.l1 1) = L.slot ∧ slotOf (crash1 ⟨1, 16 + 24 * (1 - L.slot), bsOf (slotL (L.number % 3 + 1) f p), false⟩ how L.D.l1 1) L.slot = (L.number, L.kept, L.pages) ∧ framesOf (crash1 ⟨1, 16 + 24 * (1 - L.slot), bsOf (slotL (L.number % 3 + 1) f p), false⟩ how L.D.l1 1) L.kept = L.fs.take L.kept) ∨
     (slotIx (crash1 ⟨1, 16 + 24 * (1 - L.slot), bsOf (slotL (L.number % 3 + 1) f p), false⟩ how L.D.l1 1) = 1 - L.slot ∧ slotOf (crash1 ⟨1, 16 + 24 * (1 - L.slot), bsOf (slotL (L.number % 3 + 1) f p), false⟩ how L.D.l1 1) (1 - L.slot) = (L.number % 3 + 1, f, p) ∧ framesOf (crash1 ⟨1, 16 + 24 * (1 - L.slot), bsOf (slotL (L.number % 3 + 1) f p), false⟩ how L.D.l1 1) f = L.fs.take f) := by
  unfold crash1
  rw [if_pos rfl]
  by_cases k1 : how = 1
  · rw [if_pos k1]
    have e2 : Ch.done ⟨1, 16 + 24 * (1 - L.slot), bsOf (slotL (L.number % 3 + 1) f p), false⟩ L.D.l1 = toldL L f p := by
      unfold Ch.done toldL
      rw [if_neg (show ¬ (false = true) by decide), bsOf_list]
    rw [e2]
    exact .inr (told_reads h h64 hf hp)
  · rw [if_neg k1]
    by_cases k2 : how = 2
    · rw [if_pos k2]
      have e2 : Ch.done (Ch.half ⟨1, 16 + 24 * (1 - L.slot), bsOf (slotL (L.number % 3 + 1) f p), false⟩) L.D.l1 = halfL L f p := by
        unfold Ch.half
        rw [if_neg (show ¬ (false = true) by decide)]
        unfold Ch.done halfL
        rw [if_neg (by show ¬ (false = true); decide)]
        show putL L.D.l1 (16 + 24 * (1 - L.slot)) ((bsOf (slotL (L.number % 3 + 1) f p)).extract 0 ((bsOf (slotL (L.number % 3 + 1) f p)).size / 2)).data.toList = _
        rw [bsOf_size, slotL_len, extr_part, bsOf_list, bsOf_list]
        rfl
      rw [e2]
      exact .inl (half_reads h h64 f p)
    · rw [if_neg k2]
      have := after_crash h.safe []
      have e3 : (L.D.crash []).l1 = L.D.l1 := by
        show crashL [] L.D.waits 0 1 L.D.l1 = _
        rw [h.waits]; rfl
      rw [e3] at this
      exact .inl ⟨this.2.1, this.2.2.1, this.2.2.2⟩
/-- the log on a disk on which all is settled, its second file l -/
def Lg.settle (L : Lg) (l : List UInt8) : Lg := { L with D := { L.D with l1 := l, waits := [] } }
theorem settle_synced {L : Lg} (h : Safe L) (hfull : L.fs.length = L.kept) {l : List UInt8} (z : zt l (64 + 1028 * L.kept) = zt L.D.l1 (64 + 1028 * L.kept)) (hl : L.D.l1.length ≤ l.length) (hm : l.length ≤ 67108864) : Synced (L.settle l) := by
  obtain ⟨f1, f2, f3, f4, f5⟩ := safe_file h z hl
  have hok : (L.settle l).ok := by
    refine ⟨⟨h.ok.disk.l0, hm, fun c hc => (by cases hc), h.ok.disk.fails⟩, h.ok.frames, fun i f hf => ?_, h.ok.top, h.ok.kept, h.ok.pages, h.ok.slot, h.ok.number⟩
    have hf2 : L.fs[i]? = some f := hf
    have hi : i < L.fs.length := (List.getElem?_eq_some_iff.1 hf2).1
    exact f5 i f (by omega) hf2
  exact ⟨⟨hok, f1, h.num, f2, f3, f4, f5, fun c hc => (by cases hc), fun c hc => (by cases hc)⟩, rfl⟩
theorem settle_crash {L : Lg} (h : Safe L) (hfull : L.fs.length = L.kept) (keep : List Int) : Synced (L.settle (L.D.crash keep).l1) := by
  obtain ⟨z, hl⟩ := crashL_zt keep L.D.waits 0 1 L.D.l1 (64 + 1028 * L.kept) h.waits1
  exact settle_synced h hfull z hl (Dk.crash_ok h.ok.disk keep).l1
theorem settle_seen {L : Lg} (h : Safe L) (hfull : L.fs.length = L.kept) : Synced (L.settle (L.D.seen 1)) := by
  have e1 : (L.D.crash [1]).l1 = L.D.seen 1 := seen_crash _ _ _ _
  rw [← e1]; exact settle_crash h hfull [1]
theorem chsync {D : Dk} (hw : ∀ c ∈ D.waits, c.file = 1) {c : Ch} (hc : c.file = 1) (h1 : ¬ D.stops) (h2 : ¬ (D.change c).stops) :
    (D.change c).sync 1 = ⟨D.l0, c.done (D.seen 1), [], (D.change c).turn.fails, (D.change c).turn.down, (D.change c).turn.count⟩ := by
  have e : (D.change c).sync 1 = (D.change c).syncT 1 := by
    unfold Dk.sync
    rw [if_pos (by decide), if_neg h2]; rfl
  have hs : (D.change c).seen 1 = c.done (D.seen 1) := by
    rw [Dk.change_seen _ _ h1, if_pos hc]
  have hW : (D.change c).waits = D.waits ++ [c] := by
    unfold Dk.change
    rw [if_neg h1]
  have hf : (D.change c).waits.filter (fun c => decide (c.file ≠ 1)) = [] := by
    rw [hW, List.filter_eq_nil_iff]
    intro d hd
    have : d.file = 1 := by
      rcases List.mem_append.1 hd with hd | hd
      · exact hw d hd
      · rw [List.mem_singleton.1 hd]; exact hc
    simp [this]
  rw [e]
  show Dk.mk (if 1 = 0 then _ else (D.change c).l0) (if 1 = 0 then _ else (D.change c).seen 1) ((D.change c).waits.filter (fun c => decide (c.file ≠ 1))) _ _ _ = _
  rw [if_neg (by decide), if_neg (by decide), hs, hf, (change_lasts D c).1]
theorem turn_parts {D E : Dk} (h1 : D.fails = E.fails) (h2 : D.down = E.down) (h3 : D.count = E.count) : (D.stops ↔ E.stops) ∧ D.turn.fails = E.turn.fails ∧ D.turn.down = E.turn.down ∧ D.turn.count = E.turn.count := by
  have hs : D.stops ↔ E.stops := by unfold Dk.stops; rw [h1, h2]
  refine ⟨hs, ?_⟩
  unfold Dk.turn
  by_cases h : D.stops
  · rw [if_pos h, if_pos (hs.1 h)]; exact ⟨h1, rfl, h3⟩
  · rw [if_neg h, if_neg (fun h4 => h (hs.2 h4))]
    exact ⟨by show (if 0 < D.fails then _ else _) = (if 0 < E.fails then _ else _); rw [h1], h2, by show D.count + 1 = E.count + 1; rw [h3]⟩
theorem change_parts {D E : Dk} (c : Ch) (h1 : D.fails = E.fails) (h2 : D.down = E.down) (h3 : D.count = E.count) : (D.change c).fails = (E.change c).fails ∧ (D.change c).down = (E.change c).down ∧ (D.change c).count = (E.change c).count := by
  obtain ⟨hs, t⟩ := turn_parts h1 h2 h3
  unfold Dk.change
  by_cases h : D.stops
  · rw [if_pos h, if_pos (hs.1 h)]; exact t
  · rw [if_neg h, if_neg (fun h4 => h (hs.2 h4))]; exact t
def tellCh (L : Lg) (f p : Nat) : Ch := ⟨1, 16 + 24 * (1 - L.slot), bsOf (slotL (L.number % 3 + 1) f p), false⟩
theorem tellD_eq {L : Lg} (hs : L.slot < 2) (f p : Nat) : L.tellD f p = L.D.change (tellCh L f p) := by
  have hfit : (1 < 2 ∧ 16 + 24 * (1 - L.slot) + (bsOf (slotL (L.number % 3 + 1) f p)).size ≤ 67108864) := ⟨by omega, by rw [bsOf_size, slotL_len]; omega⟩
  have hD : L.tellD f p = L.D.change ⟨(1 : Int).toNat, ((16 + 24 * (1 - L.slot) : Nat) : Int).toNat, bsOf (slotL (L.number % 3 + 1) f p), false⟩ := if_pos (fitsF_iff.2 hfit)
  rw [hD, Int.toNat_natCast]; rfl
theorem Safe.all1 {L : Lg} (h : Safe L) : ∀ c ∈ L.D.waits, c.file = 1 := fun c hc => by
  have h0 := h.waits0 c hc
  have h1 := (h.ok.disk.waits c hc).1
  omega
theorem tell_settle {L : Lg} (h : Safe L) (f p : Nat) (h1 : ¬ L.D.stops) (h2 : ¬ (L.tellD f p).stops) :
    L.tell f p = (L.settle (L.D.seen 1)).tell f p ∧ ¬ (L.settle (L.D.seen 1)).D.stops ∧ ¬ ((L.settle (L.D.seen 1)).tellD f p).stops := by
  have hs := h.ok.slot
  have e1 := tellD_eq hs f p
  have e2 : (L.settle (L.D.seen 1)).tellD f p = (L.settle (L.D.seen 1)).D.change (tellCh L f p) := tellD_eq (L := L.settle (L.D.seen 1)) hs f p
  obtain ⟨t0, _⟩ := turn_parts (D := L.D) (E := (L.settle (L.D.seen 1)).D) rfl rfl rfl
  obtain ⟨c1, c2, c3⟩ := change_parts (D := L.D) (E := (L.settle (L.D.seen 1)).D) (tellCh L f p) rfl rfl rfl
  obtain ⟨u0, u1, u2, u3⟩ := turn_parts c1 c2 c3
  have k1 : ¬ (L.settle (L.D.seen 1)).D.stops := fun h3 => h1 (t0.2 h3)
  have h2' : ¬ (L.D.change (tellCh L f p)).stops := by rw [← e1]; exact h2
  have k2' : ¬ ((L.settle (L.D.seen 1)).D.change (tellCh L f p)).stops := fun h3 => h2' (u0.2 h3)
  have k2 : ¬ ((L.settle (L.D.seen 1)).tellD f p).stops := by rw [e2]; exact k2'
  have a : L.tell f p = { L with D := (L.tellD f p).sync 1, slot := 1 - L.slot, number := L.number % 3 + 1, kept := f, pages := p } := (if_neg h1).trans (if_neg h2)
  have b : (L.settle (L.D.seen 1)).tell f p = { L with D := ((L.settle (L.D.seen 1)).tellD f p).sync 1, slot := 1 - L.slot, number := L.number % 3 + 1, kept := f, pages := p } := (if_neg k1).trans (if_neg k2)
  refine ⟨?_, k1, k2⟩
  rw [a, b, e1, e2, chsync h.all1 rfl h1 h2', chsync (fun c hc => by cases hc) rfl k1 k2', u1, u2, u3]
  rfl

/-! XKept11 -/
theorem crash_turn (D : Dk) (keep : List Int) : (D.turn.crash keep).l0 = (D.crash keep).l0 ∧ (D.turn.crash keep).l1 = (D.crash keep).l1 := by
  obtain ⟨a, b, c⟩ := turn_lasts D
  constructor
  · show crashL keep D.turn.waits 0 0 D.turn.l0 = crashL keep D.waits 0 0 D.l0
    rw [a, c]
  · show crashL keep D.turn.waits 0 1 D.turn.l1 = crashL keep D.waits 0 1 D.l1
    rw [b, c]
theorem tell_out {L : Lg} (h : Safe L) (S : ∀ keep, Synced (L.settle (L.D.crash keep).l1)) (h64 : ∀ keep, 64 ≤ (L.D.crash keep).l1.length) {f p : Nat} (hf : f ≤ L.fs.length) (hp : p < 4294967296) {K M : Nat → Option ByteArray} (hK : Holds L.D.l0 (L.fs.take L.kept) K) (hM : Holds L.D.l0 (L.fs.take f) M) :
    (L.tellE f p = 0 → Synced (L.tell f p) ∧ (L.tell f p).D.l0 = L.D.l0 ∧ (L.tell f p).fs = L.fs ∧ (L.tell f p).kept = f ∧ (L.tell f p).pages = p) ∧
    (L.tellE f p ≠ 0 → (L.tell f p).D.down = true ∧ ∀ keep, TellsL ((L.tell f p).D.crash keep).l0 ((L.tell f p).D.crash keep).l1 K ∨ TellsL ((L.tell f p).D.crash keep).l0 ((L.tell f p).D.crash keep).l1 M) := by
  have hs := h.ok.slot
  have eD := tellD_eq hs f p
  have e1c : (L.D.crash [1]).l1 = L.D.seen 1 := seen_crash _ _ _ _
  by_cases h1 : L.D.stops
  · have eE : L.tellE f p = 2 := if_pos h1
    have eT : L.tell f p = { L with D := L.tellD f p } := if_pos h1
    have eC : L.tellD f p = L.D.turn := by rw [eD]; exact if_pos h1
    have hdn : L.D.turn.down = true := by unfold Dk.turn; rw [if_pos h1]
    refine ⟨fun h2 => (by rw [eE] at h2; cases h2), fun _ => ?_⟩
    rw [eT, eC]
    refine ⟨hdn, fun keep => .inl ?_⟩
    obtain ⟨a, b⟩ := crash_turn L.D keep
    show TellsL (L.D.turn.crash keep).l0 (L.D.turn.crash keep).l1 K
    rw [a, b]
    exact safe_tells h hK keep
  · have eE : L.tellE f p = (L.tellD f p).turnE := if_neg h1
    by_cases h2 : (L.tellD f p).stops
    · have eE2 : L.tellE f p = 2 := eE.trans (if_pos h2)
      have eT : L.tell f p = { L with D := (L.tellD f p).sync 1 } := (if_neg h1).trans (if_pos h2)
      have eY : (L.tellD f p).sync 1 = (L.tellD f p).turn := by
        unfold Dk.sync
        rw [if_pos (by decide), if_pos h2]
      have hdn : (L.tellD f p).turn.down = true := by unfold Dk.turn; rw [if_pos h2]
      refine ⟨fun h3 => (by rw [eE2] at h3; cases h3), fun _ => ?_⟩
      rw [eT, eY]
      refine ⟨hdn, fun keep => ?_⟩
      obtain ⟨a, b⟩ := crash_turn (L.tellD f p) keep
      show TellsL ((L.tellD f p).turn.crash keep).l0 ((L.tellD f p).turn.crash keep).l1 K ∨ TellsL ((L.tellD f p).turn.crash keep).l0 ((L.tellD f p).turn.crash keep).l1 M
      rw [a, b]
      have w0 : (L.tellD f p).l0 = L.D.l0 := by rw [eD]; exact (change_lasts _ _).1
      have w1 : (L.tellD f p).l1 = L.D.l1 := by rw [eD]; exact (change_lasts _ _).2.1
      have w2 : (L.tellD f p).waits = L.D.waits ++ [tellCh L f p] := by
        rw [eD]; unfold Dk.change; rw [if_neg h1]
      have z0 : ((L.tellD f p).crash keep).l0 = L.D.l0 := by
        show crashL keep (L.tellD f p).waits 0 0 (L.tellD f p).l0 = _
        rw [w2, w0]
        refine crashL_none keep _ 0 0 _ fun c hc => ?_
        rcases List.mem_append.1 hc with hc | hc
        · exact h.waits0 c hc
        · rw [List.mem_singleton.1 hc]; show (1 : Nat) ≠ 0; omega
      have z1 : ((L.tellD f p).crash keep).l1 = crash1 (tellCh L f p) (howL keep (0 + L.D.waits.length)) (L.D.crash keep).l1 1 := by
        show crashL keep (L.tellD f p).waits 0 1 (L.tellD f p).l1 = _
        rw [w2, w1, crashL_append]
        rfl
      rw [z0, z1]
      have mo := mid_one (S keep) (h64 keep) hf hp (howL keep (0 + L.D.waits.length))
      rcases mo with mo | mo
      · exact .inl (.of mo hs hK)
      · exact .inr (.of mo (by show 1 - L.slot < 2; omega) hM)
    · have eE2 : L.tellE f p = 0 := eE.trans (if_neg h2)
      refine ⟨fun _ => ?_, fun h3 => absurd eE2 h3⟩
      obtain ⟨t1, t2, t3⟩ := tell_settle h f p h1 h2
      have S1 := S [1]
      rw [e1c] at S1
      have h641 := h64 [1]
      rw [e1c] at h641
      have sy := safe_tell S1 h641 hf hp t2 t3
      obtain ⟨d0, _, _⟩ := told_lasts S1 f p t2 t3
      have b : (L.settle (L.D.seen 1)).tell f p = { L with D := ((L.settle (L.D.seen 1)).tellD f p).sync 1, slot := 1 - L.slot, number := L.number % 3 + 1, kept := f, pages := p } := (if_neg t2).trans (if_neg t3)
      rw [t1]
      refine ⟨sy, ?_⟩
      rw [b]
      exact ⟨d0, rfl, rfl, rfl⟩

/-! XKept12 -/
def withP (K : Nat → Option ByteArray) (n : Nat) (t : ByteArray) : Nat → Option ByteArray := fun m => if m = n then some t else K m
structure Inv (L : Lg) (K N : Nat → Option ByteArray) : Prop where
  safe : Safe L
  l0 : L.D.l0.length ≤ 6144
  six : L.kept ≠ 0 → L.pages = 6
  kept : Holds L.D.l0 (L.fs.take L.kept) K
  now : Holds L.D.l0 L.fs N
def Lost (D : Dk) (K M : Nat → Option ByteArray) : Prop := D.down = true ∧ ∀ keep, TellsL (D.crash keep).l0 (D.crash keep).l1 K ∨ TellsL (D.crash keep).l0 (D.crash keep).l1 M
theorem holds_snoc {l0 : List UInt8} {fs : List Fr} {N : Nat → Option ByteArray} (h : Holds l0 fs N) (n : Nat) (t : ByteArray) : Holds l0 (fs ++ [⟨n, t⟩]) (withP N n t) := fun m hm => by
  have := h m hm
  unfold LiesP withP at *
  rw [lastAt_snoc]
  by_cases hn : m = n
  · subst hn
    rw [if_pos rfl, if_pos (by omega), if_pos rfl, show fs.length + 1 - 1 = fs.length by omega, List.getElem?_append_right (Nat.le_refl _), Nat.sub_self]
    rfl
  · rw [if_neg hn, if_neg (show ¬ ((⟨n, t⟩ : Fr).n : Int) = m by show ¬ ((n : Nat) : Int) = m; omega)]
    by_cases hl : lastAt fs m ≠ 0
    · rw [if_pos hl] at this ⊢
      rw [List.getElem?_append_left (by have := lastAt_le fs m; omega)]
      exact this
    · rw [if_neg hl] at this ⊢; exact this
theorem lost_turn {L : Lg} {K M : Nat → Option ByteArray} (h : Safe L) (hk : Holds L.D.l0 (L.fs.take L.kept) K) (hs : L.D.stops) : Lost L.D.turn K M := by
  refine ⟨by unfold Dk.turn; rw [if_pos hs], fun keep => .inl ?_⟩
  obtain ⟨a, b⟩ := crash_turn L.D keep
  rw [a, b]
  exact safe_tells h hk keep
section
variable {L : Lg} {K N : Nat → Option ByteArray}
theorem append_eq (h : L.ok) (hlen : L.fs.length ≤ 1000) {n : Nat} (hn : n < 6) {t : ByteArray} (ht : t.size = 1024) :
    L.appendE n t = L.D.turnE ∧ L.append n t = { L with D := L.D.change ⟨1, L.at_, bsOf (Fr.bytes ⟨n, t⟩), false⟩, fs := if L.D.stops then L.fs else L.fs ++ [⟨n, t⟩] } := by
  have hf : L.fitsA n t := ⟨by omega, by omega, ht⟩
  have hat : L.at_ = 64 + 1028 * L.fs.length := rfl
  have hfit : L.at_ + 1028 ≤ 67108864 := by omega
  have hb := Fr.bytes_len ⟨n, t⟩ ht
  have hw : fitsF (1 : Nat) (L.at_ : Nat) (bsOf (Fr.bytes ⟨n, t⟩)).size := fitsF_iff.2 ⟨by omega, by rw [bsOf_size]; omega⟩
  refine ⟨(if_pos hf).trans (if_pos hfit), (if_pos ⟨hf, hfit⟩).trans ?_⟩
  have e : L.D.write 1 L.at_ (bsOf (Fr.bytes ⟨n, t⟩)) = L.D.change ⟨1, L.at_, bsOf (Fr.bytes ⟨n, t⟩), false⟩ := by
    refine (if_pos hw).trans ?_
    rw [Int.toNat_natCast]; rfl
  rw [Int.toNat_natCast, e]
theorem append_inv (h : Inv L K N) (hlen : L.fs.length ≤ 1000) {n : Nat} (hn : n < 6) {t : ByteArray} (ht : t.size = 1024) :
    (L.appendE n t = 0 → Inv (L.append n t) K (withP N n t) ∧ (L.append n t).fs.length = L.fs.length + 1) ∧ (L.appendE n t ≠ 0 → Lost (L.append n t).D K K) := by
  obtain ⟨e1, e2⟩ := append_eq h.safe.ok hlen hn ht
  have hs := safe_append h.safe n t
  have hkl := h.safe.ok.kept
  rw [e1]
  by_cases hst : L.D.stops
  · have eE : L.D.turnE = 2 := if_pos hst
    refine ⟨fun h2 => (by rw [eE] at h2; cases h2), fun _ => ?_⟩
    have e3 : (L.append n t).D = L.D.turn := by rw [e2]; exact if_pos hst
    rw [e3]
    exact lost_turn h.safe h.kept hst
  · refine ⟨fun _ => ?_, fun h2 => absurd ((turnE_zero _).2 hst) h2⟩
    rw [e2, if_neg hst] at hs ⊢
    have hl := (change_lasts L.D ⟨1, L.at_, bsOf (Fr.bytes ⟨n, t⟩), false⟩).1
    refine ⟨⟨hs, ?_, h.six, ?_, ?_⟩, by show (L.fs ++ [_]).length = _; simp⟩
    · show (L.D.change _).l0.length ≤ 6144; rw [hl]; exact h.l0
    · show Holds (L.D.change _).l0 ((L.fs ++ [_]).take L.kept) K
      rw [hl, List.take_append_of_le_length hkl]; exact h.kept
    · show Holds (L.D.change _).l0 (L.fs ++ [_]) _
      rw [hl]; exact holds_snoc h.now n t
theorem back_inv (h : Inv L K N) : Inv L.back K K := by
  refine ⟨safe_back h.safe, h.l0, h.six, ?_, h.kept⟩
  show Holds L.D.l0 ((L.fs.take L.kept).take L.kept) K
  rw [List.take_take, Nat.min_self]; exact h.kept
theorem synced_crash {L : Lg} (h : Synced L) (keep : List Int) : L.settle (L.D.crash keep).l1 = L ∧ (L.D.crash keep).l1 = L.D.l1 := by
  have e : (L.D.crash keep).l1 = L.D.l1 := by
    show crashL keep L.D.waits 0 1 L.D.l1 = _
    rw [h.waits]; rfl
  refine ⟨?_, e⟩
  rw [e]
  have hw := h.waits
  obtain ⟨⟨a, b, c, d, e2, f⟩, fs, k, p, s, u⟩ := L
  have hw2 : c = [] := hw
  subst hw2
  rfl
theorem commit_inv (h : Inv L K N) (hlen : L.fs.length ≤ 1000) {n : Nat} (hn : n < 6) {t : ByteArray} (ht : t.size = 1024) :
    (L.commitE n t 6 = 0 → Inv (L.commit n t 6) (withP N n t) (withP N n t) ∧ (L.commit n t 6).fs.length = L.fs.length + 1) ∧ (L.commitE n t 6 ≠ 0 → Lost (L.commit n t 6).D K (withP N n t)) := by
  obtain ⟨a1, a2⟩ := append_inv h hlen hn ht
  have cE : L.commitE n t 6 = if L.appendE n t = 0 then (if (L.append n t).D.stops then 2 else ({ L.append n t with D := (L.append n t).D.sync 1 } : Lg).tellE (L.append n t).fs.length 6) else L.appendE n t := if_pos (by omega)
  have cT : L.commit n t 6 = if L.appendE n t = 0 then (if (L.append n t).D.stops then { L.append n t with D := (L.append n t).D.sync 1 } else ({ L.append n t with D := (L.append n t).D.sync 1 } : Lg).tell (L.append n t).fs.length 6) else L.append n t := if_pos (by omega)
  rw [cE, cT]
  by_cases hA : L.appendE n t = 0
  · obtain ⟨hI, hL⟩ := a1 hA
    have hsl : ∀ A : Lg, A = L.append n t → Safe A := fun A e => by rw [e]; exact hI.safe
    generalize L.append n t = A at *
    rw [if_pos hA, if_pos hA]
    by_cases hst : A.D.stops
    · rw [if_pos hst, if_pos hst]
      refine ⟨fun h2 => (by cases h2), fun _ => ?_⟩
      have eY : A.D.sync 1 = A.D.turn := by
        unfold Dk.sync
        rw [if_pos (by decide), if_pos hst]
      show Lost (A.D.sync 1) K _
      rw [eY]
      exact lost_turn hI.safe hI.kept hst
    · rw [if_neg hst, if_neg hst]
      have sy := safe_sync hI.safe hst
      have s0 := (sync_lasts hI.safe hst).1
      have hkl := sy.safe.ok.kept
      obtain ⟨B, hB⟩ : ∃ B : Lg, ({ A with D := A.D.sync 1 } : Lg) = B := ⟨_, rfl⟩
      have b0 : B.D.l0 = A.D.l0 := by rw [← hB]; exact s0
      have b1 : B.fs = A.fs := by rw [← hB]
      have b2 : B.kept = A.kept := by rw [← hB]
      rw [hB] at sy ⊢
      rw [← b1]
      have hfs : B.fs.length = L.fs.length + 1 := by rw [b1]; exact hL
      have h64 : 64 ≤ B.D.l1.length := by
        have hi : 0 < B.fs.length := by omega
        have hg := List.getElem?_eq_getElem hi
        have := partL_full (synced_lies sy hg) (Fr.bytes_len _ (sy.safe.ok.frames _ (List.mem_of_getElem? hg)).2) (by omega)
        omega
      have hM : Holds B.D.l0 (B.fs.take B.fs.length) (withP N n t) := by
        rw [List.take_of_length_le (Nat.le_refl _), b0, b1]; exact hI.now
      have hK : Holds B.D.l0 (B.fs.take B.kept) K := by rw [b0, b1, b2]; exact hI.kept
      obtain ⟨o1, o2⟩ := tell_out sy.safe (fun keep => by rw [(synced_crash sy keep).1]; exact sy) (fun keep => by rw [(synced_crash sy keep).2]; exact h64) (f := B.fs.length) (p := 6) (Nat.le_refl _) (by omega) hK hM
      refine ⟨fun h2 => ?_, fun h2 => o2 h2⟩
      obtain ⟨p1, p2, p3, p4, p5⟩ := o1 h2
      refine ⟨⟨p1.safe, by rw [p2, b0]; exact hI.l0, fun _ => p5, by rw [p2, p3, p4]; exact hM, ?_⟩, by rw [p3]; exact hfs⟩
      rw [p2, p3, b0, b1]; exact hI.now
  · rw [if_neg hA, if_neg hA]
    refine ⟨fun h2 => absurd h2 hA, fun _ => ?_⟩
    obtain ⟨l1, l2⟩ := a2 hA
    exact ⟨l1, fun keep => .inl ((l2 keep).elim id id)⟩
end

/-! XKept13 -/
theorem turnE_two (D : Dk) : D.turnE = 0 ∨ D.turnE = 2 := by
  unfold Dk.turnE; split
  · exact .inr rfl
  · exact .inl rfl
theorem puts_two {L : Lg} (h : L.ok) : ∀ (k m : Nat) (D : Dk), m + k ≤ 6 → (L.puts k m D).2 = 0 ∨ (L.puts k m D).2 = 2
  | 0, m, D, _ => .inl rfl
  | k + 1, m, D, hm => by
    rw [Lg.puts]
    split
    · exact puts_two h k (m + 1) _ (by omega)
    · by_cases hf : Framed L m
      · rw [(put1_framed D h (show m < 6 by omega) hf).2]
        exact turnE_two D
      · exact .inl (put1_bare D hf).2
theorem wet_tells {L : Lg} {K M : Nat → Option ByteArray} (h : Safe L) (hfull : L.fs.length = L.kept) (hl : L.D.l0.length ≤ 6144) (hk : Holds L.D.l0 (L.fs.take L.kept) K) {D : Dk} (hw : Wet (Framed L) L.D D) (hd : D.down = true) : Lost D K M := by
  refine ⟨hd, fun keep => .inl ?_⟩
  obtain ⟨a0, a1⟩ := after_crash h keep
  obtain ⟨b1, b2, b3⟩ := wet_l0 hw h.waits0 hl keep
  rw [wet_l1 hw keep]
  refine .of a1 h.ok.slot fun n hn => (hk n hn).grow b1 fun hz => b3 n fun hf => ?_
  rw [List.take_of_length_le (by omega)] at hz
  exact hf hz
theorem holds_bare {l0 : List UInt8} {fs : List Fr} {K : Nat → Option ByteArray} (h : Holds l0 fs K) (hlen : l0.length = 6144) (ht : ∀ n : Nat, n < 6 → lastAt fs n ≠ 0 → (fs[lastAt fs n - 1]?).map (·.text) = some (bsOf (zpg l0 n))) : Holds l0 [] K := fun n hn => by
  have := h n hn
  unfold LiesP at this ⊢
  rw [if_neg (show ¬ lastAt [] n ≠ 0 from fun h2 => h2 rfl)]
  by_cases hl : lastAt fs n ≠ 0
  · rw [if_pos hl] at this
    rw [ht n hn hl] at this
    rw [← this]
    exact ⟨rfl, fun _ => by omega⟩
  · rw [if_neg hl] at this
    exact this
theorem zpg_zt (l : List UInt8) (n : Nat) : zpg (zt l 6144) n = zpg l n := by unfold zpg; rw [zt_zt]
theorem safe_nofs {L : Lg} (h : Safe L) (hk : L.kept = 0) : Safe ({ L with fs := [] } : Lg) :=
  ⟨⟨h.ok.disk, fun f hf => (by cases hf), fun i f hf => (by cases hf), .inr rfl, by show L.kept ≤ 0; omega, h.ok.pages, h.ok.slot, h.ok.number⟩,
    h.mark, h.num, h.slot, h.old, h.top, fun i f hi hf => (by cases hf), h.waits1, h.waits0⟩
theorem safe_disk {L : Lg} (h : Safe L) {D3 : Dk} (hok3 : D3.ok) (y1 : D3.l1 = L.D.l1) (y2 : D3.waits = L.D.waits) (y3 : D3.seen 1 = L.D.seen 1) : Safe ({ L with D := D3 } : Lg) := by
  refine ⟨h.ok.same hok3 y3, ?_, h.num, ?_, ?_, ?_, ?_, ?_, ?_⟩
  · show D3.l1.take 16 = markL; rw [y1]; exact h.mark
  · show partL D3.l1 _ 24 = _; rw [y1]; exact h.slot
  · show OldSlot ((zt D3.l1 _).drop _) _; rw [y1]; exact h.old
  · show _ ∨ _ ≤ D3.l1.length; rw [y1]; exact h.top
  · show ∀ i f, i < L.kept → L.fs[i]? = some f → partL D3.l1 (64 + 1028 * i) 1028 = f.bytes; rw [y1]; exact h.lies
  · show ∀ c ∈ D3.waits, _; rw [y2]; exact h.waits1
  · show ∀ c ∈ D3.waits, _; rw [y2]; exact h.waits0
theorem tellE_two (L : Lg) (f p : Nat) : L.tellE f p = 0 ∨ L.tellE f p = 2 := by
  unfold Lg.tellE
  split
  · exact .inr rfl
  · exact turnE_two _
theorem after_put {L : Lg} {K N : Nat → Option ByteArray} (h : Inv L K N) (hfull : L.fs.length = L.kept) (h2 : ¬ L.kept = 0) {D3 : Dk} (hok3 : D3.ok) {s0 : List UInt8} (y0 : D3.l0 = zt s0 6144) (y1 : D3.l1 = L.D.l1) (y2 : D3.waits = L.D.waits) (y3 : D3.seen 1 = L.D.seen 1) (v : ∀ n, ¬ Framed L n → zpg s0 n = zpg L.D.l0 n) (q : ∀ n, n < 6 → Framed L n → bsOf (zpg s0 n) = textOf L n) :
    (({ L with D := D3 } : Lg).tellE 0 6 = 0 → Inv ({ ({ L with D := D3 } : Lg).tell 0 6 with fs := [] } : Lg) K N) ∧ (({ L with D := D3 } : Lg).tellE 0 6 ≠ 0 → Lost (({ L with D := D3 } : Lg).tell 0 6).D K K ∧ ({ L with D := D3 } : Lg).tellE 0 6 = 2) := by
  have hs := safe_disk h.safe hok3 y1 y2 y3
  have hlen : D3.l0.length = 6144 := by rw [y0, zt_len]
  have htake : L.fs.take L.kept = L.fs := List.take_of_length_le (by omega)
  have hgrow : ∀ {J : Nat → Option ByteArray}, Holds L.D.l0 L.fs J → Holds D3.l0 L.fs J := fun hJ n hn => (hJ n hn).grow (by rw [hlen]; exact h.l0) (fun hz => by rw [y0, zpg_zt]; exact v n (fun hf => hf hz))
  have hbare : ∀ {J : Nat → Option ByteArray}, Holds L.D.l0 L.fs J → Holds D3.l0 [] J := fun hJ => holds_bare (hgrow hJ) hlen fun n hn hl => by
    rw [(textOf_size h.safe.ok hl).2, y0, zpg_zt, q n hn hl]
  have hK := h.kept
  rw [htake] at hK
  have htop : 64 ≤ L.D.l1.length := by
    have := h.safe.top
    omega
  have hM : ∃ M : Lg, ({ L with D := D3 } : Lg) = M := ⟨_, rfl⟩
  obtain ⟨M, hM⟩ := hM
  have m0 : M.D = D3 := by rw [← hM]
  have m1 : M.fs = L.fs := by rw [← hM]
  have m2 : M.kept = L.kept := by rw [← hM]
  rw [hM] at hs ⊢
  have hfullM : M.fs.length = M.kept := by rw [m1, m2]; exact hfull
  have hKM : Holds M.D.l0 (M.fs.take M.kept) K := by rw [m0, m1, m2, htake]; exact hgrow hK
  have hK0 : Holds M.D.l0 (M.fs.take 0) K := by rw [m0, List.take_zero]; exact hbare hK
  obtain ⟨o1, o2⟩ := tell_out hs (fun keep => settle_crash hs hfullM keep) (fun keep => by
    obtain ⟨_, hl⟩ := crashL_zt keep M.D.waits 0 1 M.D.l1 (64 + 1028 * M.kept) hs.waits1
    have hl2 : M.D.l1.length ≤ (M.D.crash keep).l1.length := hl
    rw [m0, y1] at hl2
    rw [m0]
    omega) (f := 0) (p := 6) (Nat.zero_le _) (by omega) hKM hK0
  refine ⟨fun h3 => ?_, fun h3 => ?_⟩
  · obtain ⟨p1, p2, p3, p4, p5⟩ := o1 h3
    generalize M.tell 0 6 = T at *
    refine ⟨safe_nofs p1.safe p4, ?_, fun _ => p5, ?_, ?_⟩
    · show T.D.l0.length ≤ 6144
      rw [p2, m0, hlen]; exact Nat.le_refl _
    · show Holds T.D.l0 (([] : List Fr).take T.kept) K
      rw [p2, m0, List.take_nil]; exact hbare hK
    · show Holds T.D.l0 [] N
      rw [p2, m0]; exact hbare h.now
  · obtain ⟨d1, d2⟩ := o2 h3
    exact ⟨⟨d1, fun keep => .inl ((d2 keep).elim id id)⟩, (tellE_two M 0 6).resolve_left h3⟩
set_option maxRecDepth 100000 in
theorem check_inv {L : Lg} {K N : Nat → Option ByteArray} (h : Inv L K N) : ((L.checkpoint.2 = 0 ∨ L.checkpoint.2 = 11) → Inv L.checkpoint.1 K N ∧ L.checkpoint.1.fs.length ≤ L.fs.length) ∧ (¬ (L.checkpoint.2 = 0 ∨ L.checkpoint.2 = 11) → Lost L.checkpoint.1.D K K ∧ (L.checkpoint.2 = 2)) := by
  by_cases h1 : L.fs.length ≠ L.kept
  · have e : L.checkpoint = (L, 11) := if_pos h1
    rw [e]
    exact ⟨fun _ => ⟨h, Nat.le_refl _⟩, fun h2 => absurd (.inr rfl) h2⟩
  · have hfull : L.fs.length = L.kept := Classical.byContradiction h1
    by_cases h2 : L.kept = 0
    · have e : L.checkpoint = (L, 0) := (if_neg h1).trans (if_pos h2)
      rw [e]
      exact ⟨fun _ => ⟨h, Nat.le_refl _⟩, fun h2 => absurd (.inl rfl) h2⟩
    · have h6 := h.six h2
      have e : L.checkpoint = if (L.puts 6 0 L.D).2 ≠ 0 then ({ L with D := (L.puts 6 0 L.D).1 }, (L.puts 6 0 L.D).2) else L.check3 (L.puts 6 0 L.D).1 := by
        have := (if_neg h1).trans (if_neg h2) (a := L.checkpoint)
        rw [← h6]; exact this
      have hok := h.safe.ok
      obtain ⟨w1, w2⟩ := puts_wet hok 6 0 L.D (by omega) (Wet.refl (Framed L) L.D)
      have p2 := puts_two hok 6 0 L.D (by omega)
      have htake : L.fs.take L.kept = L.fs := List.take_of_length_le (by omega)
      have hN0 : Holds L.D.l0 L.fs N := h.now
      have hK0 : Holds L.D.l0 L.fs K := by rw [← htake]; exact h.kept
      have hseen0 : L.D.seen 0 = L.D.l0 := by
        have := seen_crash L.D.waits 0 0 L.D.l0
        rw [crashL_none [1] L.D.waits 0 0 L.D.l0 h.safe.waits0] at this
        exact this.symm
      have ps := puts_seen hok 6 0 L.D (by omega) (by rw [hseen0]; exact h.l0)
      have okp := (puts_ok L 6 0 L.D hok.disk).1
      rw [e]
      by_cases h3 : (L.puts 6 0 L.D).2 ≠ 0
      · rw [if_pos h3]
        have hp : (L.puts 6 0 L.D).2 = 2 := p2.resolve_left h3
        refine ⟨fun h4 => ?_, fun _ => ⟨wet_tells h.safe hfull h.l0 h.kept w1 (w2 h3), hp⟩⟩
        dsimp only at h4
        rw [hp] at h4
        exact absurd h4 (by decide)
      · rw [if_neg h3]
        obtain ⟨q1, q2, _, q4⟩ := ps (Classical.byContradiction h3)
        clear ps p2 w2 h3 e
        generalize (L.puts 6 0 L.D).1 = D1 at *
        have hfit : fitsF (0 : Nat) (1024 * L.pages : Nat) (0 : Nat) := fitsF_iff.2 ⟨by omega, by omega⟩
        have eCE : D1.cutE 0 (1024 * L.pages : Nat) = D1.turnE := if_pos hfit
        have eCD : D1.cutD 0 (1024 * L.pages : Nat) = D1.change ⟨0, 6144, ⟨#[]⟩, true⟩ := by
          refine (if_pos hfit).trans ?_
          rw [Int.toNat_natCast, h6]; rfl
        have hpg : PgCh (Framed L) ⟨0, 6144, ⟨#[]⟩, true⟩ := ⟨rfl, .inl ⟨rfl, rfl⟩⟩
        have w3 := w1.change hpg
        have e3 : L.check3 D1 = if D1.turnE ≠ 0 then ({ L with D := D1.change ⟨0, 6144, ⟨#[]⟩, true⟩ }, D1.turnE) else if (D1.change ⟨0, 6144, ⟨#[]⟩, true⟩).stops then ({ L with D := (D1.change ⟨0, 6144, ⟨#[]⟩, true⟩).sync 0 }, 2) else (if ({ L with D := (D1.change ⟨0, 6144, ⟨#[]⟩, true⟩).sync 0 } : Lg).tellE 0 6 = 0 then ({ ({ L with D := (D1.change ⟨0, 6144, ⟨#[]⟩, true⟩).sync 0 } : Lg).tell 0 6 with fs := [] }, 0) else (({ L with D := (D1.change ⟨0, 6144, ⟨#[]⟩, true⟩).sync 0 } : Lg).tell 0 6, ({ L with D := (D1.change ⟨0, 6144, ⟨#[]⟩, true⟩).sync 0 } : Lg).tellE 0 6)) := by
          have e0 : L.check3 D1 = if D1.cutE 0 (1024 * L.pages : Nat) ≠ 0 then ({ L with D := D1.cutD 0 (1024 * L.pages : Nat) }, D1.cutE 0 (1024 * L.pages : Nat)) else if (D1.cutD 0 (1024 * L.pages : Nat)).stops then ({ L with D := (D1.cutD 0 (1024 * L.pages : Nat)).sync 0 }, 2) else (if ({ L with D := (D1.cutD 0 (1024 * L.pages : Nat)).sync 0 } : Lg).tellE 0 L.pages = 0 then ({ ({ L with D := (D1.cutD 0 (1024 * L.pages : Nat)).sync 0 } : Lg).tell 0 L.pages with fs := [] }, 0) else (({ L with D := (D1.cutD 0 (1024 * L.pages : Nat)).sync 0 } : Lg).tell 0 L.pages, ({ L with D := (D1.cutD 0 (1024 * L.pages : Nat)).sync 0 } : Lg).tellE 0 L.pages)) := rfl
          rw [e0, eCE, eCD, h6]
        rw [e3]
        by_cases h4 : D1.turnE ≠ 0
        · rw [if_pos h4]
          have hp : D1.turnE = 2 := (turnE_two D1).resolve_left h4
          refine ⟨fun h5 => ?_, fun _ => ⟨wet_tells h.safe hfull h.l0 h.kept w3 (change_down h4), hp⟩⟩
          dsimp only at h5
          rw [hp] at h5
          exact absurd h5 (by decide)
        · rw [if_neg h4]
          have h4' : ¬ D1.stops := (turnE_zero D1).1 (Classical.byContradiction h4)
          have hs2 : (D1.change ⟨0, 6144, ⟨#[]⟩, true⟩).seen 0 = zt (D1.seen 0) 6144 := by
            rw [Dk.change_seen _ _ h4', if_pos rfl]
            unfold Ch.done
            rw [if_pos rfl]; rfl
          obtain ⟨v1, v2, v3, v4⟩ := wet_seen w3 h.safe.waits0 h.l0
          obtain ⟨ws, hws, hpgs⟩ := w3.waits
          have w30 := w3.l0
          have w31 := w3.l1
          have hD2ok : (D1.change ⟨0, 6144, ⟨#[]⟩, true⟩).ok := Dk.change_ok okp ⟨by decide, by decide, by decide, fun _ => rfl⟩
          generalize hD2 : D1.change ⟨0, 6144, ⟨#[]⟩, true⟩ = D2 at *
          by_cases h5 : D2.stops
          · rw [if_pos h5]
            have eY : D2.sync 0 = D2.turn := by
              unfold Dk.sync
              rw [if_pos (by decide), if_pos h5]
            refine ⟨fun h6 => absurd h6 (by show ¬ ((2 : Int) = 0 ∨ (2 : Int) = 11); decide), fun _ => ⟨?_, rfl⟩⟩
            show Lost (D2.sync 0) K K
            rw [eY]
            exact wet_tells h.safe hfull h.l0 h.kept w3.turn (by unfold Dk.turn; rw [if_pos h5])
          · rw [if_neg h5]
            have eS : D2.sync 0 = D2.syncT 0 := by
              unfold Dk.sync
              rw [if_pos (by decide), if_neg h5]; rfl
            have y0 : (D2.sync 0).l0 = zt (D1.seen 0) 6144 := by
              rw [eS]
              show (if 0 = 0 then D2.seen 0 else D2.l0) = _
              rw [if_pos rfl, hs2]
            have y1 : (D2.sync 0).l1 = L.D.l1 := by
              rw [eS]
              show (if 0 = 0 then D2.l1 else D2.seen 1) = _
              rw [if_pos rfl, w31]
            have y2 : (D2.sync 0).waits = L.D.waits := by
              rw [eS]
              show D2.waits.filter (fun c => decide (c.file ≠ 0)) = _
              rw [hws, List.filter_append, List.filter_eq_self.2 (fun c hc => by simp [h.safe.waits0 c hc]), List.filter_eq_nil_iff.2 (fun c hc => by simp [(hpgs c hc).1]), List.append_nil]
            have y3 : (D2.sync 0).seen 1 = L.D.seen 1 := by
              have := sync_seen D2 0 (by omega) 1 (by omega)
              exact this.trans v4
            have hD3ok : (D2.sync 0).ok := Dk.sync_ok hD2ok 0
            generalize D2.sync 0 = D3 at *
            obtain ⟨w1s, w2s, w3s, _⟩ := wet_seen w1 h.safe.waits0 h.l0
            obtain ⟨a1, a2⟩ := after_put h hfull h2 hD3ok y0 y1 y2 y3 w3s (fun n hn hf => (q4 n (Nat.zero_le _) (by omega) hf).1)
            by_cases h6 : ({ L with D := D3 } : Lg).tellE 0 6 = 0
            · rw [if_pos h6]
              exact ⟨fun _ => ⟨a1 h6, Nat.zero_le _⟩, fun h7 => absurd (.inl rfl) h7⟩
            · rw [if_neg h6]
              obtain ⟨b1, b2⟩ := a2 h6
              refine ⟨fun h7 => ?_, fun _ => ⟨b1, b2⟩⟩
              dsimp only at h7
              rw [b2] at h7
              exact absurd h7 (by decide)

/-! XKept14 -/
/-- a disk with two files, on which nothing waits -/
def plainD (a b : List UInt8) (f : Int) (n : Nat) : Dk := ⟨a, b, [], f, false, n⟩
def nothing : Nat → Option ByteArray := fun _ => none
theorem zpg_nil (n : Nat) (hn : n < 6) : zpg [] n = List.replicate 1024 0 := by
  refine List.ext_getElem? fun i => ?_
  unfold zpg
  rw [partL_get, List.getElem?_replicate]
  split
  · rw [zt_get, if_pos (by omega), if_neg (by simp)]
  · rfl
theorem holds_nothing : Holds [] [] nothing := fun n hn => by
  unfold LiesP
  rw [if_neg (show ¬ lastAt [] n ≠ 0 from fun h2 => h2 rfl), zpg_nil n hn]
  exact ⟨rfl, fun h => absurd rfl h⟩
theorem putL_nil (t : List UInt8) : putL [] 0 t = t := by
  refine List.ext_getElem? fun i => ?_
  rw [putL_get, zerosTo_get2]
  by_cases h : i < t.length
  · rw [if_pos (by omega)]; rfl
  · rw [if_neg (by omega), if_neg (by simp), if_neg (by omega), List.getElem?_eq_none (by omega)]
def firstL : List UInt8 := markL ++ slotL 1 0 0
theorem firstL_len : firstL.length = 40 := by decide
theorem anew_new (n : Nat) : (anewD (plainD [] [] (-1) n)).l0 = [] ∧ (anewD (plainD [] [] (-1) n)).l1 = firstL ∧ (anewD (plainD [] [] (-1) n)).waits = [] ∧ (anewD (plainD [] [] (-1) n)).fails = -1 ∧ (anewD (plainD [] [] (-1) n)).down = false := by
  have hc : Ch.done ⟨1, 0, ⟨#[]⟩, true⟩ [] = [] := rfl
  have e1 : (plainD [] [] (-1) n).cutD 1 0 = ⟨[], [], [⟨1, 0, ⟨#[]⟩, true⟩], -1, false, n + 1⟩ := rfl
  have e2 : (⟨[], [], [⟨1, 0, ⟨#[]⟩, true⟩], -1, false, n + 1⟩ : Dk).sync 1 = ⟨[], [], [], -1, false, n + 1 + 1⟩ := rfl
  have hs : (bsOf (markL ++ slotL 1 0 ((([] : List UInt8)).length / 1024))).size = 40 := by rw [bsOf_size]; exact firstL_len
  have e3 : (⟨[], [], [], -1, false, n + 1 + 1⟩ : Dk).write 1 0 (bsOf (markL ++ slotL 1 0 ((([] : List UInt8)).length / 1024))) = ⟨[], [], [⟨1, 0, bsOf (markL ++ slotL 1 0 ((([] : List UInt8)).length / 1024)), false⟩], -1, false, n + 1 + 1 + 1⟩ := by
    refine (if_pos ?_).trans ?_
    · rw [hs]; decide
    · rfl
  have e0 : anewD (plainD [] [] (-1) n) = ((((plainD [] [] (-1) n).cutD 1 0).sync 1).write 1 0 (bsOf (markL ++ slotL 1 0 ((([] : List UInt8)).length / 1024)))).sync 1 := rfl
  have e4 : anewD (plainD [] [] (-1) n) = ⟨[], putL [] 0 (bsOf firstL).data.toList, [], -1, false, n + 1 + 1 + 1 + 1⟩ := by
    rw [e0, e1, e2, e3]; rfl
  rw [e4]
  exact ⟨rfl, by show putL [] 0 (bsOf firstL).data.toList = _; rw [bsOf_list, putL_nil], rfl, rfl, rfl⟩
theorem slotIx_nil : slotIx [] = 2 := by decide
theorem start_eq (n : Nat) : Lg.opened (plainD [] [] (-1) n) = ⟨anewD (plainD [] [] (-1) n), [], 0, 0, 0, 1⟩ := (if_pos (c := slotIx ((plainD [] [] (-1) n).seen 1) = 2) slotIx_nil).trans (by rw [show ((plainD [] [] (-1) n).seen 0).length / 1024 = 0 from by show 0 / 1024 = 0; decide])
theorem inv_start (n : Nat) : Inv (Lg.opened (plainD [] [] (-1) n)) nothing nothing := by
  obtain ⟨h0, h1, h2, h3, h4⟩ := anew_new n
  have hok : (Lg.opened (plainD [] [] (-1) n)).ok := opened_ok ⟨by simp [plainD], by simp [plainD], fun c hc => (by cases hc), (by show -1 ≤ (-1 : Int) ∧ (-1 : Int) ≤ 9223372036854775807; decide)⟩
  rw [start_eq] at hok ⊢
  generalize anewD (plainD [] [] (-1) n) = D at *
  have hz : (zt firstL (40 + 24 * (1 - 0))).drop (16 + 24 * (1 - 0)) = List.replicate 24 0 := by decide
  refine ⟨⟨hok, ?_, ⟨Nat.le_refl _, (by show 1 ≤ 3; decide)⟩, ?_, .inl ?_, .inl rfl, fun i f hi hf => (by cases hf), fun c hc => ?_, fun c hc => ?_⟩, ?_, fun h => absurd rfl h, ?_, ?_⟩
  · show D.l1.take 16 = markL; rw [h1]; decide
  · show partL D.l1 (16 + 24 * 0) 24 = slotL 1 0 0; rw [h1]; decide
  · show (zt D.l1 (40 + 24 * (1 - 0))).drop (16 + 24 * (1 - 0)) = _; rw [h1]; exact hz
  · have hc2 : c ∈ D.waits := hc
    rw [h2] at hc2; cases hc2
  · have hc2 : c ∈ D.waits := hc
    rw [h2] at hc2; cases hc2
  · show D.l0.length ≤ 6144; rw [h0]; exact Nat.zero_le _
  · show Holds D.l0 _ _; rw [h0]; exact holds_nothing
  · show Holds D.l0 _ _; rw [h0]; exact holds_nothing
theorem inv_fail {L : Lg} {K N : Nat → Option ByteArray} (h : Inv L K N) {n : Int} (hn : n ≤ 9223372036854775807) : Inv ({ L with D := L.D.fail n } : Lg) K N :=
  ⟨safe_disk h.safe (Dk.fail_ok h.safe.ok.disk hn) rfl rfl rfl, h.l0, h.six, h.kept, h.now⟩

/-- what is asked of a page that is read -/
def FitP (o : Option ByteArray) (e : Int) (s : ByteArray) : Prop := match o with
  | some t => e = 0 ∧ s = t
  | none => e = 0 → s = zeroPage
theorem holds_reads {L : Lg} {K : Nat → Option ByteArray} (hd : L.D.down = false) (h : Holds (L.D.seen 0) L.fs K) (n : Nat) (hn : n < 6) : FitP (K n) (L.readE n) (L.readS n) := by
  have hl := h n hn
  unfold LiesP at hl
  have r0 : 0 ≤ (n : Int) ∧ (n : Int) ≤ 2147483647 := by omega
  have rE : L.readE n = if lastAt L.fs n ≠ 0 then 0 else if (n : Int) < ((L.D.seen 0).length / 1024 : Nat) then 0 else 7 := (if_pos r0).trans (if_neg (by rw [hd]; decide))
  have rS : L.readS n = if lastAt L.fs n ≠ 0 then ((L.fs[lastAt L.fs n - 1]?).map (·.text)).getD ⟨#[]⟩ else if (n : Int) < ((L.D.seen 0).length / 1024 : Nat) then bsOf (partL (L.D.seen 0) (1024 * (n : Int).toNat) 1024) else ⟨#[]⟩ := if_pos ⟨r0.1, r0.2, hd⟩
  rw [rE, rS]
  by_cases hf : lastAt L.fs n ≠ 0
  · rw [if_pos hf] at hl
    rw [if_pos hf, if_pos hf, hl]
    obtain ⟨f, h1, _⟩ := lastAt_get L.fs n hf
    rw [h1] at hl
    rw [← hl]
    exact ⟨rfl, rfl⟩
  · rw [if_neg hf] at hl
    rw [if_neg hf, if_neg hf]
    obtain ⟨h1, h2⟩ := hl
    by_cases hs : (n : Int) < ((L.D.seen 0).length / 1024 : Nat)
    · rw [if_pos hs, if_pos hs, Int.toNat_natCast]
      have e : zpg (L.D.seen 0) n = partL (L.D.seen 0) (1024 * n) 1024 := partL_zt (by omega) (by omega)
      rw [e] at h1
      rw [h1]
      cases K n with
      | none => exact fun _ => rfl
      | some t => exact ⟨rfl, rfl⟩
    · rw [if_neg hs, if_neg hs]
      cases hk : K n with
      | none => exact fun h3 => absurd h3 (by decide)
      | some t =>
        have := h2 (by rw [hk]; exact fun h => by cases h)
        omega
/-- two files tell pages: a log that is opened on them reads these -/
theorem tells_reads {l0 l1 : List UInt8} {K : Nat → Option ByteArray} (h : TellsL l0 l1 K) (n : Nat) (m : Nat) (hm : m < 6) : FitP (K m) ((Lg.opened (plainD l0 l1 (-1) n)).readE m) ((Lg.opened (plainD l0 l1 (-1) n)).readS m) := by
  obtain ⟨h1, h2⟩ := h
  have e : Lg.opened (plainD l0 l1 (-1) n) = ⟨plainD l0 l1 (-1) n, framesOf l1 (slotOf l1 (slotIx l1)).2.1, (slotOf l1 (slotIx l1)).2.1, (slotOf l1 (slotIx l1)).2.2, slotIx l1, (slotOf l1 (slotIx l1)).1⟩ := if_neg h1
  rw [e]
  exact holds_reads (L := ⟨plainD l0 l1 (-1) n, framesOf l1 (slotOf l1 (slotIx l1)).2.1, (slotOf l1 (slotIx l1)).2.1, (slotOf l1 (slotIx l1)).2.2, slotIx l1, (slotOf l1 (slotIx l1)).1⟩) rfl h2 m hm

end Go.Proofs.Ytjihboddejaelaa

/-
  The methods of disk.Disk (4): Crash.
-/
namespace Go.Proofs.Ytjihboddejaelaa
set_option linter.unusedVariables false
set_option linter.unusedSimpArgs false
open Go.RowKit
open Go.BigFrame
set_option linter.unusedVariables false
set_option linter.unusedSimpArgs false

/-- the slice value '.slice A n c' reads as these numbers -/
def IS (w : World) (A : Option Addr) (n : Nat) (ks : List Int) : Prop :=
  ks.length = n ∧ (0 < n → ∃ b off, A = some ⟨b, off, none⟩ ∧ b < w.heap.size ∧ ∀ i k, ks[i]? = some k → w.cell? ⟨b, off + i, none⟩ = some (.int .i64 k))
/-- the block of a slice -/
def blkOf (A : Option Addr) : Option Nat := A.map (·.block)
theorem IS.turn {w w' : World} {A : Option Addr} {n : Nat} {ks : List Int} {b b' : List (Option Nat)} (h : IS w A n ks) (ht : Turn b b' w w') (hn : 0 < n → ∀ k, blkOf A = some k → some k ∉ b) : IS w' A n ks :=
  ⟨h.1, fun h0 => by
    obtain ⟨k, off, rfl, hl, hc⟩ := h.2 h0
    refine ⟨k, off, rfl, Nat.lt_of_lt_of_le hl ht.size, fun i x hx => ?_⟩
    exact (World.cell?_of_block (ht.block k hl (hn h0 k rfl))).trans (hc i x hx)⟩
theorem IS.keep {w w' : World} {A : Option Addr} {n : Nat} {ks : List Int} (h : IS w A n ks) (hb : Below w.heap.size w w') : IS w' A n ks := h.turn (Turn.below [] hb) (fun _ _ _ h => by cases h)
theorem crashL_snoc (keep : List Int) {ws : List Ch} {i : Nat} (hi : i < ws.length) (f : Nat) (l : List UInt8) : crashL keep (ws.take (i + 1)) 0 f l = crash1 ws[i] (howL keep i) (crashL keep (ws.take i) 0 f l) f := by
  rw [List.take_succ_eq_append_getElem hi, crashL_append, List.length_take, Nat.min_eq_left (by omega), Nat.zero_add]; rfl
theorem crash1_no {c : Ch} {how : Int} {l : List UInt8} {f : Nat} (h1 : how ≠ 1) (h2 : how ≠ 2) : crash1 c how l f = l := by
  unfold crash1; rw [if_neg h1, if_neg h2]; split <;> rfl
theorem crash1_far {c : Ch} {how : Int} {l : List UInt8} {f : Nat} (h : c.file ≠ f) : crash1 c how l f = l := if_neg h
theorem crash1_one {c : Ch} {l : List UInt8} {f : Nat} (h : c.file = f) : crash1 c 1 l f = c.done l := by unfold crash1; rw [if_pos h, if_pos rfl]
theorem crash1_two {c : Ch} {l : List UInt8} {f : Nat} (h : c.file = f) : crash1 c 2 l f = c.half.done l := by unfold crash1; rw [if_pos h, if_neg (by omega), if_pos rfl]
theorem half_cut {c : Ch} (h : c.cut = true) : c.half = c := if_pos h
theorem half_text {c : Ch} (h : c.cut = false) : c.half = { c with text := c.text.extract 0 (c.text.size / 2), cut := false } := by
  unfold Ch.half; rw [if_neg (by rw [h]; decide)]; cases c; simp only at h; subst h; rfl
theorem below_mk (w : World) (o : Obj) : Below w.heap.size w (w.alloc o) := (Below.refl _ _).alloc (Nat.le_refl _) _
theorem howL_none {keep : List Int} (h : keep.length = 0) (i : Nat) : howL keep i = 0 := if_pos h
theorem howL_some {keep : List Int} {n : Nat} (h : keep.length = n) (hn : 0 < n) (i : Nat) : howL keep i = keep.getD (i % n) 0 := by
  unfold howL; rw [h, if_neg (by omega)]

set_option maxRecDepth 100000 in
set_option maxHeartbeats 6400000 in
theorem disk_Crash (g : Nat) (D : Dk) (b : List (Option Nat)) (A : Option Addr) (n c : Nat) (ks : List Int) (w : World) (h : DP w b g D) (hok : D.ok) (hws : D.waits.length ≤ 1000000000) (hK : IS w A n ks) (hn : n ≤ 9223372036854775807) (hA : 0 < n → ∀ k, blkOf A = some k → some k ∉ b) :
    Calls Try.prog 23 #[.pointer (some ⟨g, 0, none⟩), .slice A n c] w (DPost w b g (D.crash ks) (.tuple #[])) := by
  obtain ⟨i0, hi, hz0, hz1, hz2⟩ := info_parts infoByte
  obtain ⟨v0, v1, v2, v3, v4, rfl, hO⟩ := h
  obtain ⟨A4, k4, rfl, hnc, hcs⟩ := CS.of_own (show w.ownsRow 0 112 4 v4 D.waits.length (chCells D.waits) from hO.own 4 rfl)
  have HO := Lib.hid hO
  have OK := Lib.hid hok
  have HK := Lib.hid hK
  have HA := Lib.hid hA
  obtain ⟨c0, c1, c2, c3, c4, c5, c6, c7⟩ := hO.has.cells8
  have cz := hO.has.lt
  clear hO hok hK hA hcs
  go_enter Try.func23, Try.ntmps23
  go_wp2_with fail
  go_loopw [15] (fun v15 wr => ∃ (i : Nat) (u0 u2 : Value), i ≤ D.waits.length ∧ v15 = .int .i64 i ∧
    Ob wr g 87 (dCells D.fails D.down D.count u0 v1 u2 v3 (.slice A4 D.waits.length k4)) (dRows (crashL ks (D.waits.take i) 0 0 D.l0) (D.seen 0) (crashL ks (D.waits.take i) 0 1 D.l1) (D.seen 1) D.waits u0 v1 u2 v3 (.slice A4 D.waits.length k4)) ∧
    Turn (blks g (dRows D.l0 (D.seen 0) D.l1 (D.seen 1) D.waits v0 v1 v2 v3 (.slice A4 D.waits.length k4))) (blks g (dRows (crashL ks (D.waits.take i) 0 0 D.l0) (D.seen 0) (crashL ks (D.waits.take i) 0 1 D.l1) (D.seen 1) D.waits u0 v1 u2 v3 (.slice A4 D.waits.length k4))) w wr) (fun v15 _ => D.waits.length - (intOf v15).toNat)
  case atStart => exact ⟨0, v0, v2, Nat.zero_le _, rfl, HO.out, Turn.refl _ _⟩
  case round =>
    clear c0 c1 c2 c3 c4 c5 c6 c7 cz
    obtain ⟨i, u0, u2, hin, rfl, ho, ht⟩ := hrel
    have HOr := Lib.hid ho
    have HT := Lib.hid ht
    obtain ⟨c0, c1, c2, c3, c4, c5, c6, c7⟩ := ho.has.cells8
    have cz := ho.has.lt
    have HKr := Lib.hid (HK.out.turn ht HA.out)
    clear ho ht
    by_cases hi2 : i < D.waits.length
    · obtain ⟨A4', k4', e4, _, hcs⟩ := CS.of_own (show wr.ownsRow 0 112 4 (.slice A4 D.waits.length k4) D.waits.length (chCells D.waits) from HOr.out.own 4 rfl)
      cases e4
      obtain ⟨b4, o4, rfl, hb4, hcc⟩ := hcs.2 (by omega)
      obtain ⟨d0, d1, d2, d3⟩ := hcc i D.waits[i] (by simp [hi2])
      have C0 := Lib.hid (crashL_snoc ks hi2 0 D.l0)
      have C1 := Lib.hid (crashL_snoc ks hi2 1 D.l1)
      have FX := Lib.hid (OK.out.waits D.waits[i] (List.getElem_mem hi2))
      obtain ⟨x, hx⟩ : ∃ x, D.waits[i] = x := ⟨_, rfl⟩
      simp only [hx] at d0 d1 d2 d3 C0 C1 FX
      have L0 := Lib.hid (crashL_fits ks (D.waits.take i) 0 0 D.l0 (fun c hc => OK.out.waits c (List.mem_of_mem_take hc)) OK.out.l0)
      have L1 := Lib.hid (crashL_fits ks (D.waits.take i) 0 1 D.l1 (fun c hc => OK.out.waits c (List.mem_of_mem_take hc)) OK.out.l1)
      have hxf : x.file < 2 := FX.out.1
      clear hcc hcs hx
      obtain ⟨how, hhow⟩ : ∃ x, howL ks i = x := ⟨_, rfl⟩
      rw [hhow] at C0 C1
      have HHOW := Lib.hid hhow
      clear hhow
      by_cases hn0 : n = 0
      · have h0 : how = 0 := by rw [← HHOW.out]; exact howL_none (by rw [HKr.out.1]; exact hn0) i
        subst hn0 h0
        have E0 := Lib.hid (show crashL ks (D.waits.take (i + 1)) 0 0 D.l0 = crashL ks (D.waits.take i) 0 0 D.l0 by rw [C0.out]; exact crash1_no (by omega) (by omega))
        have E1 := Lib.hid (show crashL ks (D.waits.take (i + 1)) 0 1 D.l1 = crashL ks (D.waits.take i) 0 1 D.l1 by rw [C1.out]; exact crash1_no (by omega) (by omega))
        clear C0 C1
        go_wp2_with fail
        go_roundw
        case rel => exact ⟨i + 1, _, _, by omega, by simp, by rw [E0.out, E1.out]; exact HOr.out.alloc _, by rw [E0.out, E1.out]; exact HT.out.trans (Turn.below _ (below_mk _ _))⟩
        case measure => simp [intOf]; omega
      · obtain ⟨bk, ok, rfl, hbk, hkc⟩ := HKr.out.2 (by omega)
        have hkn : i % n < ks.length := by rw [HKr.out.1]; exact Nat.mod_lt _ (by omega)
        have kc := hkc (i % n) how (by rw [← HHOW.out, howL_some HKr.out.1 (by omega), List.getD_eq_getElem?_getD, List.getElem?_eq_getElem hkn]; rfl)
        have ke : (i : Int) % (n : Int) = ((i % n : Nat) : Int) := by simp
        have n0 : (0 : Int) < (n : Int) := by omega
        have n1 : ((n : Int) == 0) = false := by rw [beq_eq_false_iff_ne]; omega
        have kl : i % n < n := Nat.mod_lt _ (by omega)
        clear hkc hkn hn0
        obtain ⟨q, hq⟩ : ∃ q, i % n = q := ⟨_, rfl⟩
        rw [hq] at kc ke kl
        clear hq
        by_cases h1 : how = 1
        · subst h1
          have FC := Lib.hid (show (x).fits from FX.out)
          rcases (show x.file = 0 ∨ x.file = 1 by omega) with hf | hf
          · have xf : (x.file : Int) = 0 := by omega
            have E0 := Lib.hid (show crashL ks (D.waits.take (i + 1)) 0 0 D.l0 = (x).done (crashL ks (D.waits.take i) 0 0 D.l0) by rw [C0.out]; exact crash1_one hf)
            have E1 := Lib.hid (show crashL ks (D.waits.take (i + 1)) 0 1 D.l1 = crashL ks (D.waits.take i) 0 1 D.l1 by rw [C1.out]; exact crash1_far (by omega))
            have T2 : Hid (∀ (w1 : World), w1.ownsRow 0 5 1 u0 (crashL ks (D.waits.take i) 0 0 D.l0).length (u8s (crashL ks (D.waits.take i) 0 0 D.l0)) → Calls Try.prog 76 #[.agg #[.int .i64 0, .int .i64 x.at_, .string x.text, .bool x.cut], u0] w1 (RowPost w1 5 1 u0 ((x).done (crashL ks (D.waits.take i) 0 0 D.l0)).length (u8s ((x).done (crashL ks (D.waits.take i) 0 0 D.l0))))) := fun w1 h1 => by
              have h2 := disk_done (x) u0 _ w1 h1 L0.out FC.out
              unfold chVal at h2
              rw [show ((x).file : Int) = 0 from xf, show (x).at_ = x.at_ from rfl, show (x).text = x.text from rfl, show (x).cut = x.cut from rfl] at h2
              exact h2
            clear C0 C1 hf hxf
            go_upto_region 9 with fail
            have HOx := Lib.hid (HOr.out.alloc (.cells #[.int .i64 0, .int .i64 x.at_, .string x.text, .bool x.cut] 112))
            have HXx := Lib.hid (Has.new wr 112 #[.int .i64 0, .int .i64 x.at_, .string x.text, .bool x.cut])
            have HTx := Lib.hid (HT.out.trans (Turn.below _ (below_mk wr (.cells #[.int .i64 0, .int .i64 x.at_, .string x.text, .bool x.cut] 112))))
            clear c0 c1 c2 c3 c4 c5 c6 c7 cz d0 d1 d2 d3
            generalize wr.alloc (.cells #[.int .i64 0, .int .i64 x.at_, .string x.text, .bool x.cut] 112) = W at *
            obtain ⟨x0, x1, x2, x3⟩ := HXx.out.cells4
            have xz := HXx.out.lt
            have cz := HOx.out.has.lt
            refine wp_region_cls (W) (by kernel_rfl) (by kernel_rfl) (Cls.start _) ?_
            repeat
              first
                | go_big_quiet_skip
                | (go_big_quiet_want; (first | go_big_quiet_op | go_simp); first | go_big_quiet_on | (apply Exists.intro; refine ⟨fun w' hw' => ?_, ?_⟩; (· (first | (with_reducible exact rfl) | (fail) | (obtain ⟨hc, hf⟩ := hw'.facts; go_simp; first | done | (with_reducible exact rfl) | (with_reducible exact ⟨rfl, rfl⟩)))); go_big_quiet_on))
            refine wpQuiet_nil ?_
            intro wq hq
            have HQ := Lib.hid hq
            have HO2 := Lib.hid (HOx.out.below hq)
            have HX3 := Lib.hid (HXx.out.belowS hq)
            clear hq x0 x1 x2 x3 xz cz
            obtain ⟨x0, x1, x2, x3⟩ := HX3.out.cells4
            have xz := HX3.out.lt
            obtain ⟨c0, c1, c2, c3, c4, c5, c6, c7⟩ := HO2.out.has.cells8
            have cf := HO2.out.has.frozen
            have cz := HO2.out.has.lt
            go_wp2_with fail
            go_region_law
              (first | (go_simp; go_at_call 76; (with_reducible refine (T2.out _ ((HO2.out.own 0 rfl).drew)).mono ?_); rintro e w5 ⟨v', rfl, hown5, hr5⟩; obtain ⟨A5, k5, rfl, _⟩ := own_form hown5; have HR := Lib.hid ((HO2.out.below (Below.refl _ _).drew).row 0 (r := rowB u0 (crashL ks (D.waits.take i) 0 0 D.l0)) (r' := rowB _ ((x).done (crashL ks (D.waits.take i) 0 0 D.l0))) rfl hr5.grown hown5 hr5.at_); have gf5 := HR.out.1.has.frozen; have gc5 := HR.out.1.has.cells8; obtain ⟨g0, g1, g2, g3, g4, g5, g6, g7⟩ := gc5; have gz5 := HR.out.1.has.lt))
            all_goals
              go_wp2_with fail
              go_roundw
              case rel => exact ⟨i + 1, _, _, by omega, by simp, by rw [E0.out, E1.out]; exact HR.out.1.set 0 _, by rw [E0.out, E1.out]; exact HTx.out.trans ((Turn.below _ HQ.out).trans ((Turn.below _ (Below.refl _ _).drew).trans (HR.out.2.trans (Turn.set _ _ 0 _ _))))⟩
              case measure => simp [intOf]; omega
          · have xf : (x.file : Int) = 1 := by omega
            have E0 := Lib.hid (show crashL ks (D.waits.take (i + 1)) 0 0 D.l0 = crashL ks (D.waits.take i) 0 0 D.l0 by rw [C0.out]; exact crash1_far (by omega))
            have E1 := Lib.hid (show crashL ks (D.waits.take (i + 1)) 0 1 D.l1 = (x).done (crashL ks (D.waits.take i) 0 1 D.l1) by rw [C1.out]; exact crash1_one hf)
            have T2 : Hid (∀ (w1 : World), w1.ownsRow 0 5 1 u2 (crashL ks (D.waits.take i) 0 1 D.l1).length (u8s (crashL ks (D.waits.take i) 0 1 D.l1)) → Calls Try.prog 76 #[.agg #[.int .i64 1, .int .i64 x.at_, .string x.text, .bool x.cut], u2] w1 (RowPost w1 5 1 u2 ((x).done (crashL ks (D.waits.take i) 0 1 D.l1)).length (u8s ((x).done (crashL ks (D.waits.take i) 0 1 D.l1))))) := fun w1 h1 => by
              have h2 := disk_done (x) u2 _ w1 h1 L1.out FC.out
              unfold chVal at h2
              rw [show ((x).file : Int) = 1 from xf, show (x).at_ = x.at_ from rfl, show (x).text = x.text from rfl, show (x).cut = x.cut from rfl] at h2
              exact h2
            clear C0 C1 hf hxf
            go_upto_region 9 with fail
            have HOx := Lib.hid (HOr.out.alloc (.cells #[.int .i64 1, .int .i64 x.at_, .string x.text, .bool x.cut] 112))
            have HXx := Lib.hid (Has.new wr 112 #[.int .i64 1, .int .i64 x.at_, .string x.text, .bool x.cut])
            have HTx := Lib.hid (HT.out.trans (Turn.below _ (below_mk wr (.cells #[.int .i64 1, .int .i64 x.at_, .string x.text, .bool x.cut] 112))))
            clear c0 c1 c2 c3 c4 c5 c6 c7 cz d0 d1 d2 d3
            generalize wr.alloc (.cells #[.int .i64 1, .int .i64 x.at_, .string x.text, .bool x.cut] 112) = W at *
            obtain ⟨x0, x1, x2, x3⟩ := HXx.out.cells4
            have xz := HXx.out.lt
            have cz := HOx.out.has.lt
            refine wp_region_cls (W) (by kernel_rfl) (by kernel_rfl) (Cls.start _) ?_
            repeat
              first
                | go_big_quiet_skip
                | (go_big_quiet_want; (first | go_big_quiet_op | go_simp); first | go_big_quiet_on | (apply Exists.intro; refine ⟨fun w' hw' => ?_, ?_⟩; (· (first | (with_reducible exact rfl) | (fail) | (obtain ⟨hc, hf⟩ := hw'.facts; go_simp; first | done | (with_reducible exact rfl) | (with_reducible exact ⟨rfl, rfl⟩)))); go_big_quiet_on))
            refine wpQuiet_nil ?_
            intro wq hq
            have HQ := Lib.hid hq
            have HO2 := Lib.hid (HOx.out.below hq)
            have HX3 := Lib.hid (HXx.out.belowS hq)
            clear hq x0 x1 x2 x3 xz cz
            obtain ⟨x0, x1, x2, x3⟩ := HX3.out.cells4
            have xz := HX3.out.lt
            obtain ⟨c0, c1, c2, c3, c4, c5, c6, c7⟩ := HO2.out.has.cells8
            have cf := HO2.out.has.frozen
            have cz := HO2.out.has.lt
            go_wp2_with fail
            go_region_law
              (first | (go_simp; go_at_call 76; (with_reducible refine (T2.out _ ((HO2.out.own 2 rfl).drew)).mono ?_); rintro e w5 ⟨v', rfl, hown5, hr5⟩; obtain ⟨A5, k5, rfl, _⟩ := own_form hown5; have HR := Lib.hid ((HO2.out.below (Below.refl _ _).drew).row 2 (r := rowB u2 (crashL ks (D.waits.take i) 0 1 D.l1)) (r' := rowB _ ((x).done (crashL ks (D.waits.take i) 0 1 D.l1))) rfl hr5.grown hown5 hr5.at_); have gf5 := HR.out.1.has.frozen; have gc5 := HR.out.1.has.cells8; obtain ⟨g0, g1, g2, g3, g4, g5, g6, g7⟩ := gc5; have gz5 := HR.out.1.has.lt))
            all_goals
              go_wp2_with fail
              go_roundw
              case rel => exact ⟨i + 1, _, _, by omega, by simp, by rw [E0.out, E1.out]; exact HR.out.1.set 2 _, by rw [E0.out, E1.out]; exact HTx.out.trans ((Turn.below _ HQ.out).trans ((Turn.below _ (Below.refl _ _).drew).trans (HR.out.2.trans (Turn.set _ _ 2 _ _))))⟩
              case measure => simp [intOf]; omega

        · by_cases h2 : how = 2
          · subst h2
            cases hcut : x.cut with
            | true =>
              have HC := Lib.hid (half_cut hcut)
              rw [hcut] at d3
              have FC := Lib.hid (show (x).fits from FX.out)
              rcases (show x.file = 0 ∨ x.file = 1 by omega) with hf | hf
              · have xf : (x.file : Int) = 0 := by omega
                have E0 := Lib.hid (show crashL ks (D.waits.take (i + 1)) 0 0 D.l0 = (x).done (crashL ks (D.waits.take i) 0 0 D.l0) by rw [C0.out]; exact (crash1_two hf).trans (by rw [HC.out]))
                have E1 := Lib.hid (show crashL ks (D.waits.take (i + 1)) 0 1 D.l1 = crashL ks (D.waits.take i) 0 1 D.l1 by rw [C1.out]; exact crash1_far (by omega))
                have T2 : Hid (∀ (w1 : World), w1.ownsRow 0 5 1 u0 (crashL ks (D.waits.take i) 0 0 D.l0).length (u8s (crashL ks (D.waits.take i) 0 0 D.l0)) → Calls Try.prog 76 #[.agg #[.int .i64 0, .int .i64 x.at_, .string x.text, .bool true], u0] w1 (RowPost w1 5 1 u0 ((x).done (crashL ks (D.waits.take i) 0 0 D.l0)).length (u8s ((x).done (crashL ks (D.waits.take i) 0 0 D.l0))))) := fun w1 h1 => by
                  have h2 := disk_done (x) u0 _ w1 h1 L0.out FC.out
                  unfold chVal at h2
                  rw [show ((x).file : Int) = 0 from xf, show (x).at_ = x.at_ from rfl, show (x).text = x.text from rfl, hcut] at h2
                  exact h2
                clear C0 C1 hf hxf
                go_upto_region 9 with fail
                have HOx := Lib.hid (HOr.out.alloc (.cells #[.int .i64 0, .int .i64 x.at_, .string x.text, .bool true] 112))
                have HXx := Lib.hid (Has.new wr 112 #[.int .i64 0, .int .i64 x.at_, .string x.text, .bool true])
                have HTx := Lib.hid (HT.out.trans (Turn.below _ (below_mk wr (.cells #[.int .i64 0, .int .i64 x.at_, .string x.text, .bool true] 112))))
                clear c0 c1 c2 c3 c4 c5 c6 c7 cz d0 d1 d2 d3
                generalize wr.alloc (.cells #[.int .i64 0, .int .i64 x.at_, .string x.text, .bool true] 112) = W at *
                obtain ⟨x0, x1, x2, x3⟩ := HXx.out.cells4
                have xz := HXx.out.lt
                have cz := HOx.out.has.lt
                refine wp_region_cls (W) (by kernel_rfl) (by kernel_rfl) (Cls.start _) ?_
                repeat
                  first
                    | go_big_quiet_skip
                    | (go_big_quiet_want; (first | go_big_quiet_op | go_simp); first | go_big_quiet_on | (apply Exists.intro; refine ⟨fun w' hw' => ?_, ?_⟩; (· (first | (with_reducible exact rfl) | (fail) | (obtain ⟨hc, hf⟩ := hw'.facts; go_simp; first | done | (with_reducible exact rfl) | (with_reducible exact ⟨rfl, rfl⟩)))); go_big_quiet_on))
                refine wpQuiet_nil ?_
                intro wq hq
                have HQ := Lib.hid hq
                have HO2 := Lib.hid (HOx.out.below hq)
                have HX3 := Lib.hid (HXx.out.belowS hq)
                clear hq x0 x1 x2 x3 xz cz
                obtain ⟨x0, x1, x2, x3⟩ := HX3.out.cells4
                have xz := HX3.out.lt
                obtain ⟨c0, c1, c2, c3, c4, c5, c6, c7⟩ := HO2.out.has.cells8
                have cf := HO2.out.has.frozen
                have cz := HO2.out.has.lt
                go_wp2_with fail
                go_region_law
                  (first | (go_simp; go_at_call 76; (with_reducible refine (T2.out _ ((HO2.out.own 0 rfl).drew)).mono ?_); rintro e w5 ⟨v', rfl, hown5, hr5⟩; obtain ⟨A5, k5, rfl, _⟩ := own_form hown5; have HR := Lib.hid ((HO2.out.below (Below.refl _ _).drew).row 0 (r := rowB u0 (crashL ks (D.waits.take i) 0 0 D.l0)) (r' := rowB _ ((x).done (crashL ks (D.waits.take i) 0 0 D.l0))) rfl hr5.grown hown5 hr5.at_); have gf5 := HR.out.1.has.frozen; have gc5 := HR.out.1.has.cells8; obtain ⟨g0, g1, g2, g3, g4, g5, g6, g7⟩ := gc5; have gz5 := HR.out.1.has.lt))
                all_goals
                  go_wp2_with fail
                  go_roundw
                  case rel => exact ⟨i + 1, _, _, by omega, by simp, by rw [E0.out, E1.out]; exact HR.out.1.set 0 _, by rw [E0.out, E1.out]; exact HTx.out.trans ((Turn.below _ HQ.out).trans ((Turn.below _ (Below.refl _ _).drew).trans (HR.out.2.trans (Turn.set _ _ 0 _ _))))⟩
                  case measure => simp [intOf]; omega
              · have xf : (x.file : Int) = 1 := by omega
                have E0 := Lib.hid (show crashL ks (D.waits.take (i + 1)) 0 0 D.l0 = crashL ks (D.waits.take i) 0 0 D.l0 by rw [C0.out]; exact crash1_far (by omega))
                have E1 := Lib.hid (show crashL ks (D.waits.take (i + 1)) 0 1 D.l1 = (x).done (crashL ks (D.waits.take i) 0 1 D.l1) by rw [C1.out]; exact (crash1_two hf).trans (by rw [HC.out]))
                have T2 : Hid (∀ (w1 : World), w1.ownsRow 0 5 1 u2 (crashL ks (D.waits.take i) 0 1 D.l1).length (u8s (crashL ks (D.waits.take i) 0 1 D.l1)) → Calls Try.prog 76 #[.agg #[.int .i64 1, .int .i64 x.at_, .string x.text, .bool true], u2] w1 (RowPost w1 5 1 u2 ((x).done (crashL ks (D.waits.take i) 0 1 D.l1)).length (u8s ((x).done (crashL ks (D.waits.take i) 0 1 D.l1))))) := fun w1 h1 => by
                  have h2 := disk_done (x) u2 _ w1 h1 L1.out FC.out
                  unfold chVal at h2
                  rw [show ((x).file : Int) = 1 from xf, show (x).at_ = x.at_ from rfl, show (x).text = x.text from rfl, hcut] at h2
                  exact h2
                clear C0 C1 hf hxf
                go_upto_region 9 with fail
                have HOx := Lib.hid (HOr.out.alloc (.cells #[.int .i64 1, .int .i64 x.at_, .string x.text, .bool true] 112))
                have HXx := Lib.hid (Has.new wr 112 #[.int .i64 1, .int .i64 x.at_, .string x.text, .bool true])
                have HTx := Lib.hid (HT.out.trans (Turn.below _ (below_mk wr (.cells #[.int .i64 1, .int .i64 x.at_, .string x.text, .bool true] 112))))
                clear c0 c1 c2 c3 c4 c5 c6 c7 cz d0 d1 d2 d3
                generalize wr.alloc (.cells #[.int .i64 1, .int .i64 x.at_, .string x.text, .bool true] 112) = W at *
                obtain ⟨x0, x1, x2, x3⟩ := HXx.out.cells4
                have xz := HXx.out.lt
                have cz := HOx.out.has.lt
                refine wp_region_cls (W) (by kernel_rfl) (by kernel_rfl) (Cls.start _) ?_
                repeat
                  first
                    | go_big_quiet_skip
                    | (go_big_quiet_want; (first | go_big_quiet_op | go_simp); first | go_big_quiet_on | (apply Exists.intro; refine ⟨fun w' hw' => ?_, ?_⟩; (· (first | (with_reducible exact rfl) | (fail) | (obtain ⟨hc, hf⟩ := hw'.facts; go_simp; first | done | (with_reducible exact rfl) | (with_reducible exact ⟨rfl, rfl⟩)))); go_big_quiet_on))
                refine wpQuiet_nil ?_
                intro wq hq
                have HQ := Lib.hid hq
                have HO2 := Lib.hid (HOx.out.below hq)
                have HX3 := Lib.hid (HXx.out.belowS hq)
                clear hq x0 x1 x2 x3 xz cz
                obtain ⟨x0, x1, x2, x3⟩ := HX3.out.cells4
                have xz := HX3.out.lt
                obtain ⟨c0, c1, c2, c3, c4, c5, c6, c7⟩ := HO2.out.has.cells8
                have cf := HO2.out.has.frozen
                have cz := HO2.out.has.lt
                go_wp2_with fail
                go_region_law
                  (first | (go_simp; go_at_call 76; (with_reducible refine (T2.out _ ((HO2.out.own 2 rfl).drew)).mono ?_); rintro e w5 ⟨v', rfl, hown5, hr5⟩; obtain ⟨A5, k5, rfl, _⟩ := own_form hown5; have HR := Lib.hid ((HO2.out.below (Below.refl _ _).drew).row 2 (r := rowB u2 (crashL ks (D.waits.take i) 0 1 D.l1)) (r' := rowB _ ((x).done (crashL ks (D.waits.take i) 0 1 D.l1))) rfl hr5.grown hown5 hr5.at_); have gf5 := HR.out.1.has.frozen; have gc5 := HR.out.1.has.cells8; obtain ⟨g0, g1, g2, g3, g4, g5, g6, g7⟩ := gc5; have gz5 := HR.out.1.has.lt))
                all_goals
                  go_wp2_with fail
                  go_roundw
                  case rel => exact ⟨i + 1, _, _, by omega, by simp, by rw [E0.out, E1.out]; exact HR.out.1.set 2 _, by rw [E0.out, E1.out]; exact HTx.out.trans ((Turn.below _ HQ.out).trans ((Turn.below _ (Below.refl _ _).drew).trans (HR.out.2.trans (Turn.set _ _ 2 _ _))))⟩
                  case measure => simp [intOf]; omega

            | false =>
              have HC := Lib.hid (half_text hcut)
              rw [hcut] at d3
              obtain ⟨tx, htx⟩ : ∃ t, x.text.extract 0 (x.text.size / 2) = t := ⟨_, rfl⟩
              rw [htx] at HC
              have hsz := FX.out.2.2.1
              have hs1 : x.text.size / 2 ≤ x.text.size := by omega
              have hh := Lib.hid (half_fits FX.out)
              rw [HC.out] at hh
              have FC := Lib.hid (show ({ x with text := tx, cut := false } : Ch).fits from hh.out)
              rcases (show x.file = 0 ∨ x.file = 1 by omega) with hf | hf
              · have xf : (x.file : Int) = 0 := by omega
                have E0 := Lib.hid (show crashL ks (D.waits.take (i + 1)) 0 0 D.l0 = ({ x with text := tx, cut := false } : Ch).done (crashL ks (D.waits.take i) 0 0 D.l0) by rw [C0.out]; exact (crash1_two hf).trans (by rw [HC.out]))
                have E1 := Lib.hid (show crashL ks (D.waits.take (i + 1)) 0 1 D.l1 = crashL ks (D.waits.take i) 0 1 D.l1 by rw [C1.out]; exact crash1_far (by omega))
                have T2 : Hid (∀ (w1 : World), w1.ownsRow 0 5 1 u0 (crashL ks (D.waits.take i) 0 0 D.l0).length (u8s (crashL ks (D.waits.take i) 0 0 D.l0)) → Calls Try.prog 76 #[.agg #[.int .i64 0, .int .i64 x.at_, .string tx, .bool false], u0] w1 (RowPost w1 5 1 u0 (({ x with text := tx, cut := false } : Ch).done (crashL ks (D.waits.take i) 0 0 D.l0)).length (u8s (({ x with text := tx, cut := false } : Ch).done (crashL ks (D.waits.take i) 0 0 D.l0))))) := fun w1 h1 => by
                  have h2 := disk_done ({ x with text := tx, cut := false } : Ch) u0 _ w1 h1 L0.out FC.out
                  unfold chVal at h2
                  rw [show (({ x with text := tx, cut := false } : Ch).file : Int) = 0 from xf, show ({ x with text := tx, cut := false } : Ch).at_ = x.at_ from rfl, show ({ x with text := tx, cut := false } : Ch).text = tx from rfl, show ({ x with text := tx, cut := false } : Ch).cut = false from rfl] at h2
                  exact h2
                clear C0 C1 hf hxf HC hh hcut
                go_upto_region 9 with fail
                have HOx := Lib.hid (HOr.out.alloc (.cells #[.int .i64 0, .int .i64 x.at_, .string tx, .bool false] 112))
                have HXx := Lib.hid (Has.new wr 112 #[.int .i64 0, .int .i64 x.at_, .string tx, .bool false])
                have HTx := Lib.hid (HT.out.trans (Turn.below _ (below_mk wr (.cells #[.int .i64 0, .int .i64 x.at_, .string tx, .bool false] 112))))
                clear c0 c1 c2 c3 c4 c5 c6 c7 cz d0 d1 d2 d3
                generalize wr.alloc (.cells #[.int .i64 0, .int .i64 x.at_, .string tx, .bool false] 112) = W at *
                obtain ⟨x0, x1, x2, x3⟩ := HXx.out.cells4
                have xz := HXx.out.lt
                have cz := HOx.out.has.lt
                refine wp_region_cls (W) (by kernel_rfl) (by kernel_rfl) (Cls.start _) ?_
                repeat
                  first
                    | go_big_quiet_skip
                    | (go_big_quiet_want; (first | go_big_quiet_op | go_simp); first | go_big_quiet_on | (apply Exists.intro; refine ⟨fun w' hw' => ?_, ?_⟩; (· (first | (with_reducible exact rfl) | (fail) | (obtain ⟨hc, hf⟩ := hw'.facts; go_simp; first | done | (with_reducible exact rfl) | (with_reducible exact ⟨rfl, rfl⟩)))); go_big_quiet_on))
                refine wpQuiet_nil ?_
                intro wq hq
                have HQ := Lib.hid hq
                have HO2 := Lib.hid (HOx.out.below hq)
                have HX3 := Lib.hid (HXx.out.belowS hq)
                clear hq x0 x1 x2 x3 xz cz
                obtain ⟨x0, x1, x2, x3⟩ := HX3.out.cells4
                have xz := HX3.out.lt
                obtain ⟨c0, c1, c2, c3, c4, c5, c6, c7⟩ := HO2.out.has.cells8
                have cf := HO2.out.has.frozen
                have cz := HO2.out.has.lt
                go_wp2_with fail
                go_region_law
                  (first | (go_simp; go_at_call 76; (with_reducible refine (T2.out _ ((HO2.out.own 0 rfl).drew)).mono ?_); rintro e w5 ⟨v', rfl, hown5, hr5⟩; obtain ⟨A5, k5, rfl, _⟩ := own_form hown5; have HR := Lib.hid ((HO2.out.below (Below.refl _ _).drew).row 0 (r := rowB u0 (crashL ks (D.waits.take i) 0 0 D.l0)) (r' := rowB _ (({ x with text := tx, cut := false } : Ch).done (crashL ks (D.waits.take i) 0 0 D.l0))) rfl hr5.grown hown5 hr5.at_); have gf5 := HR.out.1.has.frozen; have gc5 := HR.out.1.has.cells8; obtain ⟨g0, g1, g2, g3, g4, g5, g6, g7⟩ := gc5; have gz5 := HR.out.1.has.lt))
                all_goals
                  go_wp2_with fail
                  go_roundw
                  case rel => exact ⟨i + 1, _, _, by omega, by simp, by rw [E0.out, E1.out]; exact HR.out.1.set 0 _, by rw [E0.out, E1.out]; exact HTx.out.trans ((Turn.below _ HQ.out).trans ((Turn.below _ (Below.refl _ _).drew).trans (HR.out.2.trans (Turn.set _ _ 0 _ _))))⟩
                  case measure => simp [intOf]; omega
              · have xf : (x.file : Int) = 1 := by omega
                have E0 := Lib.hid (show crashL ks (D.waits.take (i + 1)) 0 0 D.l0 = crashL ks (D.waits.take i) 0 0 D.l0 by rw [C0.out]; exact crash1_far (by omega))
                have E1 := Lib.hid (show crashL ks (D.waits.take (i + 1)) 0 1 D.l1 = ({ x with text := tx, cut := false } : Ch).done (crashL ks (D.waits.take i) 0 1 D.l1) by rw [C1.out]; exact (crash1_two hf).trans (by rw [HC.out]))
                have T2 : Hid (∀ (w1 : World), w1.ownsRow 0 5 1 u2 (crashL ks (D.waits.take i) 0 1 D.l1).length (u8s (crashL ks (D.waits.take i) 0 1 D.l1)) → Calls Try.prog 76 #[.agg #[.int .i64 1, .int .i64 x.at_, .string tx, .bool false], u2] w1 (RowPost w1 5 1 u2 (({ x with text := tx, cut := false } : Ch).done (crashL ks (D.waits.take i) 0 1 D.l1)).length (u8s (({ x with text := tx, cut := false } : Ch).done (crashL ks (D.waits.take i) 0 1 D.l1))))) := fun w1 h1 => by
                  have h2 := disk_done ({ x with text := tx, cut := false } : Ch) u2 _ w1 h1 L1.out FC.out
                  unfold chVal at h2
                  rw [show (({ x with text := tx, cut := false } : Ch).file : Int) = 1 from xf, show ({ x with text := tx, cut := false } : Ch).at_ = x.at_ from rfl, show ({ x with text := tx, cut := false } : Ch).text = tx from rfl, show ({ x with text := tx, cut := false } : Ch).cut = false from rfl] at h2
                  exact h2
                clear C0 C1 hf hxf HC hh hcut
                go_upto_region 9 with fail
                have HOx := Lib.hid (HOr.out.alloc (.cells #[.int .i64 1, .int .i64 x.at_, .string tx, .bool false] 112))
                have HXx := Lib.hid (Has.new wr 112 #[.int .i64 1, .int .i64 x.at_, .string tx, .bool false])
                have HTx := Lib.hid (HT.out.trans (Turn.below _ (below_mk wr (.cells #[.int .i64 1, .int .i64 x.at_, .string tx, .bool false] 112))))
                clear c0 c1 c2 c3 c4 c5 c6 c7 cz d0 d1 d2 d3
                generalize wr.alloc (.cells #[.int .i64 1, .int .i64 x.at_, .string tx, .bool false] 112) = W at *
                obtain ⟨x0, x1, x2, x3⟩ := HXx.out.cells4
                have xz := HXx.out.lt
                have cz := HOx.out.has.lt
                refine wp_region_cls (W) (by kernel_rfl) (by kernel_rfl) (Cls.start _) ?_
                repeat
                  first
                    | go_big_quiet_skip
                    | (go_big_quiet_want; (first | go_big_quiet_op | go_simp); first | go_big_quiet_on | (apply Exists.intro; refine ⟨fun w' hw' => ?_, ?_⟩; (· (first | (with_reducible exact rfl) | (fail) | (obtain ⟨hc, hf⟩ := hw'.facts; go_simp; first | done | (with_reducible exact rfl) | (with_reducible exact ⟨rfl, rfl⟩)))); go_big_quiet_on))
                refine wpQuiet_nil ?_
                intro wq hq
                have HQ := Lib.hid hq
                have HO2 := Lib.hid (HOx.out.below hq)
                have HX3 := Lib.hid (HXx.out.belowS hq)
                clear hq x0 x1 x2 x3 xz cz
                obtain ⟨x0, x1, x2, x3⟩ := HX3.out.cells4
                have xz := HX3.out.lt
                obtain ⟨c0, c1, c2, c3, c4, c5, c6, c7⟩ := HO2.out.has.cells8
                have cf := HO2.out.has.frozen
                have cz := HO2.out.has.lt
                go_wp2_with fail
                go_region_law
                  (first | (go_simp; go_at_call 76; (with_reducible refine (T2.out _ ((HO2.out.own 2 rfl).drew)).mono ?_); rintro e w5 ⟨v', rfl, hown5, hr5⟩; obtain ⟨A5, k5, rfl, _⟩ := own_form hown5; have HR := Lib.hid ((HO2.out.below (Below.refl _ _).drew).row 2 (r := rowB u2 (crashL ks (D.waits.take i) 0 1 D.l1)) (r' := rowB _ (({ x with text := tx, cut := false } : Ch).done (crashL ks (D.waits.take i) 0 1 D.l1))) rfl hr5.grown hown5 hr5.at_); have gf5 := HR.out.1.has.frozen; have gc5 := HR.out.1.has.cells8; obtain ⟨g0, g1, g2, g3, g4, g5, g6, g7⟩ := gc5; have gz5 := HR.out.1.has.lt))
                all_goals
                  go_wp2_with fail
                  go_roundw
                  case rel => exact ⟨i + 1, _, _, by omega, by simp, by rw [E0.out, E1.out]; exact HR.out.1.set 2 _, by rw [E0.out, E1.out]; exact HTx.out.trans ((Turn.below _ HQ.out).trans ((Turn.below _ (Below.refl _ _).drew).trans (HR.out.2.trans (Turn.set _ _ 2 _ _))))⟩
                  case measure => simp [intOf]; omega

          · have hh1 : (how == 1) = false := by rw [beq_eq_false_iff_ne]; exact h1
            have hh2 : (how == 2) = false := by rw [beq_eq_false_iff_ne]; exact h2
            have E0 := Lib.hid (show crashL ks (D.waits.take (i + 1)) 0 0 D.l0 = crashL ks (D.waits.take i) 0 0 D.l0 by rw [C0.out]; exact crash1_no (by omega) (by omega))
            have E1 := Lib.hid (show crashL ks (D.waits.take (i + 1)) 0 1 D.l1 = crashL ks (D.waits.take i) 0 1 D.l1 by rw [C1.out]; exact crash1_no (by omega) (by omega))
            clear C0 C1
            go_wp2_with fail
            go_roundw
            case rel => exact ⟨i + 1, _, _, by omega, by simp, by rw [E0.out, E1.out]; exact HOr.out.alloc _, by rw [E0.out, E1.out]; exact HT.out.trans (Turn.below _ (below_mk _ _))⟩
            case measure => simp [intOf]; omega
    · obtain rfl : i = D.waits.length := by omega
      have E0 := Lib.hid (show crashL ks (D.waits.take D.waits.length) 0 0 D.l0 = (D.crash ks).l0 by rw [List.take_length]; rfl)
      have E1 := Lib.hid (show crashL ks (D.waits.take D.waits.length) 0 1 D.l1 = (D.crash ks).l1 by rw [List.take_length]; rfl)
      have OK2 := Lib.hid (Dk.crash_ok OK.out ks)
      have EQ := Lib.hid (show (D.crash ks).waits = [] ∧ (D.crash ks).fails = -1 ∧ (D.crash ks).down = false ∧ (D.crash ks).count = D.count ∧ (D.crash ks).seen 0 = (D.crash ks).l0 ∧ (D.crash ks).seen 1 = (D.crash ks).l1 from ⟨rfl, rfl, rfl, rfl, rfl, rfl⟩)
      rw [E0.out, E1.out] at HOr HT
      obtain ⟨E, hE⟩ : ∃ E, D.crash ks = E := ⟨_, rfl⟩
      rw [hE] at HOr HT OK2 EQ
      have HE := Lib.hid hE
      clear E0 E1 hE HKr
      go_wp2_with fail
      go_loopw [67] (fun v67 wr' => ∃ (j : Nat) (u0 u1 u2 u3 : Value), j ≤ 2 ∧ v67 = .int .i64 j ∧
        Ob wr' g 87 (dCells D.fails D.down D.count u0 u1 u2 u3 (.slice A4 D.waits.length k4)) (dRows E.l0 (if 0 < j then E.l0 else D.seen 0) E.l1 (if 1 < j then E.l1 else D.seen 1) D.waits u0 u1 u2 u3 (.slice A4 D.waits.length k4)) ∧
        Turn (blks g (dRows D.l0 (D.seen 0) D.l1 (D.seen 1) D.waits v0 v1 v2 v3 (.slice A4 D.waits.length k4))) (blks g (dRows E.l0 (if 0 < j then E.l0 else D.seen 0) E.l1 (if 1 < j then E.l1 else D.seen 1) D.waits u0 u1 u2 u3 (.slice A4 D.waits.length k4))) w wr') (fun v67 _ => 2 - (intOf v67).toNat)
      case atStart => exact ⟨0, u0, v1, u2, v3, by omega, rfl, HOr.out, HT.out⟩
      case round =>
        clear c0 c1 c2 c3 c4 c5 c6 c7 cz HOr HT
        obtain ⟨j, u0, u1, u2, u3, hj, rfl, ho, ht⟩ := hrel
        have HOr := Lib.hid ho
        have HT := Lib.hid ht
        obtain ⟨c0, c1, c2, c3, c4, c5, c6, c7⟩ := ho.has.cells8
        have cf := ho.has.frozen
        have cz := ho.has.lt
        have L0 := OK2.out.l0
        have L1 := OK2.out.l1
        clear ho ht
        rcases (show j = 0 ∨ j = 1 ∨ j = 2 by omega) with rfl | rfl | rfl
        · have HO2 := Lib.hid (show Ob wr g 87 (dCells D.fails D.down D.count u0 u1 u2 u3 (.slice A4 D.waits.length k4)) (dRows E.l0 (D.seen 0) E.l1 (D.seen 1) D.waits u0 u1 u2 u3 (.slice A4 D.waits.length k4)) from HOr.out)
          have HT2 := Lib.hid (show Turn (blks g (dRows D.l0 (D.seen 0) D.l1 (D.seen 1) D.waits v0 v1 v2 v3 (.slice A4 D.waits.length k4))) (blks g (dRows E.l0 (D.seen 0) E.l1 (D.seen 1) D.waits u0 u1 u2 u3 (.slice A4 D.waits.length k4))) w wr from HT.out)
          obtain ⟨As, cs, hvs, _, hbs⟩ := BS.of_own (show wr.ownsRow 0 5 1 u0 E.l0.length (u8s E.l0) from HO2.out.own 0 rfl)
          rw [hvs] at c0
          have HBS := Lib.hid hbs
          have G1 := Lib.hid (show 0 + E.l0.length ≤ maxLen by unfold maxLen; omega)
          have G2 := Lib.hid (show (0 + E.l0.length) * 1 ≤ 140737488355328 by omega)
          have HVS := Lib.hid hvs
          clear HOr HT hbs hvs
          go_wp2_with (at_builtin; go_loud (refine wpList_append_src _ rfl (.const (.slice none 0 0)) (.tmp 79) 81 81 rfl 0 5 i0 _ 1 1 Try.underlying81 hi hz0 hz1 hz2 zeroByte1 (by decide) (.slice none 0 0) 0 [] rfl (World.ownsRow_nil _ _ _ _) (.slice As E.l0.length cs) E.l0.length (u8s E.l0) rfl (HBS.out.src Try.underlying81) G1.out G2.out (Nat.zero_le _) ?_); intro vv w6 hown1 hg1 _ hat1; rw [Nat.zero_add] at hown1; obtain ⟨A5, k5, rfl, _⟩ := own_form hown1; have HR := Lib.hid (HO2.out.row 1 (r := rowB u1 (D.seen 0)) (r' := rowB (.slice A5 E.l0.length k5) E.l0) rfl (grownBy_weak hg1) hown1 (.inr (fresh_own hat1))); have gf5 := HR.out.1.has.frozen; have gc5 := HR.out.1.has.cells8; obtain ⟨g0, g1, g2, g3, g4, g5, g6, g7⟩ := gc5; have gz5 := HR.out.1.has.lt; clear hown1 hg1 hat1)
          go_roundw
          case rel => exact ⟨0 + 1, _, _, _, _, by omega, rfl, HR.out.1.set 1 _, HT2.out.trans (HR.out.2.trans (Turn.set _ _ 1 _ _))⟩
          case measure => simp [intOf]
        · have HO2 := Lib.hid (show Ob wr g 87 (dCells D.fails D.down D.count u0 u1 u2 u3 (.slice A4 D.waits.length k4)) (dRows E.l0 E.l0 E.l1 (D.seen 1) D.waits u0 u1 u2 u3 (.slice A4 D.waits.length k4)) from HOr.out)
          have HT2 := Lib.hid (show Turn (blks g (dRows D.l0 (D.seen 0) D.l1 (D.seen 1) D.waits v0 v1 v2 v3 (.slice A4 D.waits.length k4))) (blks g (dRows E.l0 E.l0 E.l1 (D.seen 1) D.waits u0 u1 u2 u3 (.slice A4 D.waits.length k4))) w wr from HT.out)
          obtain ⟨As, cs, hvs, _, hbs⟩ := BS.of_own (show wr.ownsRow 0 5 1 u2 E.l1.length (u8s E.l1) from HO2.out.own 2 rfl)
          rw [hvs] at c2
          have HBS := Lib.hid hbs
          have G1 := Lib.hid (show 0 + E.l1.length ≤ maxLen by unfold maxLen; omega)
          have G2 := Lib.hid (show (0 + E.l1.length) * 1 ≤ 140737488355328 by omega)
          have HVS := Lib.hid hvs
          clear HOr HT hbs hvs
          go_wp2_with (at_builtin; go_loud (refine wpList_append_src _ rfl (.const (.slice none 0 0)) (.tmp 79) 81 81 rfl 0 5 i0 _ 1 1 Try.underlying81 hi hz0 hz1 hz2 zeroByte1 (by decide) (.slice none 0 0) 0 [] rfl (World.ownsRow_nil _ _ _ _) (.slice As E.l1.length cs) E.l1.length (u8s E.l1) rfl (HBS.out.src Try.underlying81) G1.out G2.out (Nat.zero_le _) ?_); intro vv w6 hown1 hg1 _ hat1; rw [Nat.zero_add] at hown1; obtain ⟨A5, k5, rfl, _⟩ := own_form hown1; have HR := Lib.hid (HO2.out.row 3 (r := rowB u3 (D.seen 1)) (r' := rowB (.slice A5 E.l1.length k5) E.l1) rfl (grownBy_weak hg1) hown1 (.inr (fresh_own hat1))); have gf5 := HR.out.1.has.frozen; have gc5 := HR.out.1.has.cells8; obtain ⟨g0, g1, g2, g3, g4, g5, g6, g7⟩ := gc5; have gz5 := HR.out.1.has.lt; clear hown1 hg1 hat1)
          go_roundw
          case rel => exact ⟨1 + 1, _, _, _, _, by omega, rfl, HR.out.1.set 3 _, HT2.out.trans (HR.out.2.trans (Turn.set _ _ 3 _ _))⟩
          case measure => simp [intOf]
        · have HO2 := Lib.hid (show Ob wr g 87 (dCells D.fails D.down D.count u0 u1 u2 u3 (.slice A4 D.waits.length k4)) (dRows E.l0 E.l0 E.l1 E.l1 D.waits u0 u1 u2 u3 (.slice A4 D.waits.length k4)) from HOr.out)
          have HT2 := Lib.hid (show Turn (blks g (dRows D.l0 (D.seen 0) D.l1 (D.seen 1) D.waits v0 v1 v2 v3 (.slice A4 D.waits.length k4))) (blks g (dRows E.l0 E.l0 E.l1 E.l1 D.waits u0 u1 u2 u3 (.slice A4 D.waits.length k4))) w wr from HT.out)
          clear HOr HT
          go_wp2_with fail
          go_end0
          refine ⟨rfl, _, ?_, (((HT2.out.swap 4 (r' := rowC (.slice none 0 0) []) (fun k hk => by cases hk)).trans (Turn.set _ _ 4 _ _)).trans (Turn.set _ _ 5 _ _)).trans (Turn.set _ _ 6 _ _)⟩
          unfold DP
          rw [HE.out, EQ.out.1, EQ.out.2.1, EQ.out.2.2.1, EQ.out.2.2.2.1, EQ.out.2.2.2.2.1, EQ.out.2.2.2.2.2]
          exact ⟨_, _, _, _, _, rfl, (((HO2.out.swap 4 (r' := rowC (.slice none 0 0) []) rfl (World.ownsRow_nil _ _ _ _) (fun k hk => by cases hk)).set 4 _).set 5 _).set 6 _⟩

end Go.Proofs.Ytjihboddejaelaa

/-
  A law's arguments opened: what is common to all laws of a seat.
-/
namespace Go.Proofs.Ytjihboddejaelaa
set_option linter.unusedVariables false
set_option linter.unusedSimpArgs false
open Go.ChangeShapes Go.WideShapes Go.ChangeAt Go.RowKit
set_option linter.unusedVariables false
set_option linter.unusedSimpArgs false

theorem own2 : ownKnob Try.prog.godebug = none := by kernel_rfl
theorem laidOut2 : laidOutB Try.prog = true := by kernel_rfl
theorem cellsInt2 : Try.prog.cellsOf 3 = 1 := by kernel_rfl
theorem cellsString2 : Try.prog.cellsOf 9 = 1 := by kernel_rfl
theorem cellsInts2 : Try.prog.cellsOf 28 = 1 := by kernel_rfl
theorem cellsTexts2 : Try.prog.cellsOf 29 = 1 := by kernel_rfl
theorem bytesInt2 : Try.prog.bytesOf 3 = 8 := by kernel_rfl

theorem spot_none {W : World} {a : Addr} {u : Value} (c0 : W.cell? (a.add 0) = some u) : a.spot = none ∧ a.block < W.heap.size := by
  have hs : a.spot = none := by
    unfold World.cell? at c0
    cases hsp : a.spot with
    | none => rfl
    | some q =>
      exfalso
      have : (a.add 0).spot = some q := by simp [Addr.add, hsp]
      rw [this] at c0
      split at c0 <;> simp at c0
  refine ⟨hs, ?_⟩
  obtain ⟨b, off, spot⟩ := a
  simp only at hs
  subst hs
  unfold World.cell? at c0
  rcases Nat.lt_or_ge b W.heap.size with h1 | h1
  · exact h1
  · rw [show ((⟨b, off, none⟩ : Addr).add 0).block = b from rfl, Array.getElem?_eq_none h1] at c0
    cases c0

section
variable {H : Type} {enc : TypeId × Value → H} {W : World}
/-- a list of numbers, wherever it stands -/
theorem trod_ints {fuel : Nat} {cs : List Value} {x : DataW H × List MemPlace} (h : DataW.trod enc Try.prog W 0 (fun _ => true) true fuel 28 cs = some x) :
    ∃ (A : Option Addr) (n c : Nat) (l : List Int), cs = [.slice A n c] ∧ IS W A n l ∧ (0 < n → ∀ k, blkOf A = some k → k < W.heap.size) ∧ n ≤ c ∧ ((c = 0 ∧ x.1 = .nil) ∨ ∃ e r, x.1 = .slice e r ∧ e.length + r.length = c) := by
  rcases Go.Deep.open_slice1 Try.underlying28 cellsInt2 h with ⟨hcs, hx⟩ | ⟨a, len, cap, m, k, V, D, Pl, hcs, _, hl, hm, hmm, hx, hi⟩
  · subst hx
    exact ⟨none, 0, 0, [], hcs, ⟨rfl, fun h => absurd h (by omega)⟩, (fun _ k hk => by cases hk), Nat.le_refl _, .inl ⟨rfl, rfl⟩⟩
  · simp only [if_true] at hmm
    subst hmm
    subst hx
    have hv : ∀ i, i < m → ∃ z : Int, V i = .int .i64 z := fun i him => by
      obtain ⟨z, e0, _, _⟩ := DataW.trod_int Try.underlying3 (hi i him).2
      simp at e0; exact ⟨z, e0⟩
    by_cases hm0 : m = 0
    · subst hm0
      have : len = 0 := by omega
      subst this
      exact ⟨some a, 0, 0, [], hcs, ⟨rfl, fun h => absurd h (by omega)⟩, fun h => absurd h (by omega), Nat.le_refl _, .inr ⟨[], [], rfl, rfl⟩⟩
    · have c0 := (hi 0 (by omega)).1
      obtain ⟨hs, hb⟩ := spot_none c0
      obtain ⟨b, off, spot⟩ := a
      simp only at hs hb
      subst hs
      obtain ⟨Z, hZ⟩ : ∃ Z : Nat → Int, ∀ i, i < m → V i = .int .i64 (Z i) := ⟨fun i => if h : i < m then (hv i h).choose else 0, fun i hi => by have := (hv i hi).choose_spec; simp only [dif_pos hi]; exact this⟩
      refine ⟨some ⟨b, off, none⟩, len, m, (List.range len).map Z, hcs, ⟨by simp, fun _ => ⟨b, off, rfl, hb, fun i z hz => ?_⟩⟩, (fun _ k hk => by cases hk; exact hb), hl, .inr ⟨_, _, rfl, by simp; omega⟩⟩
      have hin : i < len := by
        have := (List.getElem?_eq_some_iff.1 hz).1
        simpa using this
      rw [List.getElem?_map, List.getElem?_range hin] at hz
      have h2 := (hi i (by omega)).1
      rw [addr_add, hZ i (by omega)] at h2
      rw [h2]
      simp at hz
      rw [hz]
end
theorem weightsAll_memD {H : Type} {P : Program} {e : TypeId} {d : DataW H} : ∀ {l : List (DataW H)}, d ∈ l → ∀ n ∈ d.weights P e, n ∈ DataW.weightsAll P e l
  | x :: l, hd, n, hn => by
    simp only [DataW.weightsAll, List.mem_append]
    rcases List.mem_cons.1 hd with rfl | h
    · exact Or.inl hn
    · exact Or.inr (weightsAll_memD h n hn)
theorem wf_high {n : Int} (h : (Lit.int .i64 n).wf = true) : n ≤ 9223372036854775807 := by
  have : -9223372036854775808 ≤ n ∧ n ≤ 9223372036854775807 := by
    simpa [Lit.wf, IntKind.min, IntKind.max, IntKind.bits, IntKind.signed] using h
  exact this.2

end Go.Proofs.Ytjihboddejaelaa

/-
  The laws' arguments opened (package relstorekeep): a list of steps of six fields; a list of numbers.
-/
namespace Go.Proofs.Ytjihboddejaelaa
set_option linter.unusedVariables false
set_option linter.unusedSimpArgs false
open Go.ChangeShapes Go.WideShapes Go.ChangeAt Go.RowKit
set_option linter.unusedVariables false
set_option linter.unusedSimpArgs false

theorem cellsActK : Try.prog.cellsOf 45 = 6 := by kernel_rfl
structure ActK where
  kind : Int
  f : Int
  at_ : Int
  n : Int
  s : ByteArray
  t : ByteArray
def ActK.arr (a : ActK) : Array Value := #[.int .i64 a.kind, .int .i64 a.f, .int .i64 a.at_, .int .i64 a.n, .string a.s, .string a.t]
def in64 (x : Int) : Prop := -9223372036854775808 ≤ x ∧ x ≤ 9223372036854775807
structure ActK.Ok (a : ActK) : Prop where
  kind : in64 a.kind
  f : in64 a.f
  at_ : in64 a.at_
  n : in64 a.n
  s : a.s.size ≤ maxLen
  t : a.t.size ≤ maxLen
/-- a list of steps -/
structure KS (w : World) (A : Option Addr) (n : Nat) (acts : List ActK) : Prop where
  len : acts.length = n
  cells : 0 < n → ∃ b off, A = some ⟨b, off, none⟩ ∧ b < w.heap.size ∧ ∀ i a, acts[i]? = some a → ∀ j u, a.arr[j]? = some u → w.cell? ⟨b, off + i * 6 + j, none⟩ = some u
  ok : ∀ a ∈ acts, a.Ok
theorem KS.take {w : World} {A : Option Addr} {n : Nat} {acts : List ActK} (h : KS w A n acts) {k : Nat} (hk : k ≤ n) : KS w A k (acts.take k) :=
  ⟨by rw [List.length_take, h.len]; omega, fun hn => by
    obtain ⟨b, off, hA, hl, hc⟩ := h.cells (by omega)
    exact ⟨b, off, hA, hl, fun i v hv => hc i v (by
      rw [List.getElem?_take] at hv
      split at hv
      · exact hv
      · cases hv)⟩, fun a ha => h.ok a (List.mem_of_mem_take ha)⟩
theorem KS.below {w w' : World} {A : Option Addr} {n : Nat} {acts : List ActK} (h : KS w A n acts) (hb : Below w.heap.size w w') : KS w' A n acts :=
  ⟨h.len, fun hn => by
    obtain ⟨b, off, hA, hl, hc⟩ := h.cells hn
    exact ⟨b, off, hA, Nat.lt_of_lt_of_le hl hb.size, fun i v hv j u hu => (hb.cell (p := ⟨b, off + i * 6 + j, none⟩) hl).trans (hc i v hv j u hu)⟩, h.ok⟩
theorem wf_in {n : Int} (h : (Lit.int .i64 n).wf = true) : in64 n := by
  have : -9223372036854775808 ≤ n ∧ n ≤ 9223372036854775807 := by
    simpa [Lit.wf, IntKind.min, IntKind.max, IntKind.bits, IntKind.signed] using h
  exact this
section
variable {H : Type} {enc : TypeId × Value → H} {W : World}
set_option maxRecDepth 100000 in
theorem trod_actK {fuel : Nat} {cs : List Value} {x : DataW H × List MemPlace} (h : DataW.trod enc Try.prog W 0 (fun _ => true) true fuel 45 cs = some x) : ∃ a : ActK, cs = a.arr.toList ∧ a.Ok := by
  obtain ⟨xs, n, _, hx, hl, hlen, hf⟩ := DataW.trod_struct Try.underlying45 h
  rw [cellsActK] at hl
  match cs, hl, xs, hlen with
  | [c0, c1, c2, c3, c4, c5], _, [y0, y1, y2, y3, y4, y5], _ =>
    have g0 : DataW.trod enc Try.prog W 0 (fun _ => true) true n 3 (([c0, c1, c2, c3, c4, c5].drop 0).take (Try.prog.cellsOf 3)) = some y0 := hf 0 _ rfl
    have g1 : DataW.trod enc Try.prog W 0 (fun _ => true) true n 3 (([c0, c1, c2, c3, c4, c5].drop 1).take (Try.prog.cellsOf 3)) = some y1 := hf 1 _ rfl
    have g2 : DataW.trod enc Try.prog W 0 (fun _ => true) true n 3 (([c0, c1, c2, c3, c4, c5].drop 2).take (Try.prog.cellsOf 3)) = some y2 := hf 2 _ rfl
    have g3 : DataW.trod enc Try.prog W 0 (fun _ => true) true n 3 (([c0, c1, c2, c3, c4, c5].drop 3).take (Try.prog.cellsOf 3)) = some y3 := hf 3 _ rfl
    have g4 : DataW.trod enc Try.prog W 0 (fun _ => true) true n 9 (([c0, c1, c2, c3, c4, c5].drop 4).take (Try.prog.cellsOf 9)) = some y4 := hf 4 _ rfl
    have g5 : DataW.trod enc Try.prog W 0 (fun _ => true) true n 9 (([c0, c1, c2, c3, c4, c5].drop 5).take (Try.prog.cellsOf 9)) = some y5 := hf 5 _ rfl
    simp only [cellsInt2, cellsString2, List.drop_zero, List.drop_succ_cons, List.take_succ_cons, List.take_zero] at g0 g1 g2 g3 g4 g5
    obtain ⟨a0, e0, h0, w0⟩ := DataW.trod_int Try.underlying3 g0
    obtain ⟨a1, e1, h1, w1⟩ := DataW.trod_int Try.underlying3 g1
    obtain ⟨a2, e2, h2, w2⟩ := DataW.trod_int Try.underlying3 g2
    obtain ⟨a3, e3, h3, w3⟩ := DataW.trod_int Try.underlying3 g3
    obtain ⟨s4, e4, h4, w4⟩ := DataW.trod_string Try.underlying9 g4
    obtain ⟨s5, e5, h5, w5⟩ := DataW.trod_string Try.underlying9 g5
    simp at e0 e1 e2 e3 e4 e5
    subst e0 e1 e2 e3 e4 e5 hx
    exact ⟨⟨a0, a1, a2, a3, s4, s5⟩, rfl, ⟨wf_in w0, wf_in w1, wf_in w2, wf_in w3, w4, w5⟩⟩
theorem open_actsK {A : Option Addr} {n c : Nat} {d : DataW H} {p : List MemPlace} (h : DataW.Trod enc Try.prog W 0 (fun _ => true) true 35 (.slice A n c) d p) :
    ∃ acts : List ActK, KS W A n acts ∧ n ≤ c := by
  obtain ⟨fuel, hf⟩ := h
  rcases Go.Deep.open_slice Try.underlying35 hf with ⟨hcs, hx⟩ | ⟨a, len, cap, m, k, D, Pl, hcs, _, hl, hm, hmm, hx, hi⟩
  · simp [Value.cells] at hcs
    obtain ⟨rfl, rfl, rfl⟩ := hcs
    exact ⟨[], ⟨rfl, (fun h => absurd h (by omega)), fun a ha => by cases ha⟩, Nat.le_refl _⟩
  · simp [Value.cells] at hcs
    obtain ⟨rfl, rfl, rfl⟩ := hcs
    simp only [if_true] at hmm
    subst hmm
    rw [cellsActK] at hi hx
    have hv : ∀ i, i < m → ∃ v : ActK, v.Ok ∧ ∀ j u, v.arr[j]? = some u → W.cell? (a.add (i * 6 + j)) = some u := fun i him => by
      obtain ⟨cs', h1, h2⟩ := hi i him
      obtain ⟨v, rfl, hr⟩ := trod_actK h2
      obtain ⟨_, hlen, hcell⟩ := World.cells?_some h1
      refine ⟨v, hr, fun j u hu => ?_⟩
      have hj : j < 6 := by
        have := (Array.getElem?_eq_some_iff.1 hu).1
        simpa [ActK.arr] using this
      rw [← Go.Deep.add_add, hcell j hj]
      simpa using hu
    obtain ⟨V, hV⟩ : ∃ V : Nat → ActK, ∀ i, i < m → (V i).Ok ∧ ∀ j u, (V i).arr[j]? = some u → W.cell? (a.add (i * 6 + j)) = some u :=
      ⟨fun i => if h : i < m then (hv i h).choose else ⟨0, 0, 0, 0, ⟨#[]⟩, ⟨#[]⟩⟩, fun i hi => by have := (hv i hi).choose_spec; simp only [dif_pos hi]; exact this⟩
    refine ⟨(List.range n).map V, ⟨by simp, fun hn => ?_, ?_⟩, hl⟩
    · have c0 := (hV 0 (by omega)).2 0 _ rfl
      rw [show 0 * 6 + 0 = 0 from rfl] at c0
      obtain ⟨hs, hb⟩ := spot_none c0
      obtain ⟨b, off, spot⟩ := a
      simp only at hs hb
      subst hs
      refine ⟨b, off, rfl, hb, fun i v hi j u hu => ?_⟩
      have hin : i < n := by
        have := (List.getElem?_eq_some_iff.1 hi).1
        simpa using this
      have hvi : V i = v := by
        rw [List.getElem?_map, List.getElem?_range hin] at hi
        simpa using hi
      have g := (hV i (by omega)).2
      rw [hvi] at g
      have := g j u hu
      rw [addr_add] at this; simpa [Nat.add_assoc] using this
    · intro v hv
      obtain ⟨i, hi, rfl⟩ := List.mem_map.1 hv
      have hin := List.mem_range.1 hi
      exact (hV i (by omega)).1
/-- a list of numbers, an argument -/
theorem open_intsK {A : Option Addr} {n c : Nat} {d : DataW H} {p : List MemPlace} (h : DataW.Trod enc Try.prog W 0 (fun _ => true) true 28 (.slice A n c) d p) :
    ∃ l : List Int, IS W A n l ∧ (0 < n → ∀ k, blkOf A = some k → k < W.heap.size) ∧ n ≤ c ∧ ((c = 0 ∧ d = .nil) ∨ ∃ e r, d = .slice e r ∧ e.length + r.length = c) := by
  obtain ⟨fuel, hf⟩ := h
  obtain ⟨A', n', c', l, hcs, h1, h2, h3, h4⟩ := trod_ints hf
  simp [Value.cells] at hcs
  obtain ⟨rfl, rfl, rfl⟩ := hcs
  exact ⟨l, h1, h2, h3, h4⟩
end

end Go.Proofs.Ytjihboddejaelaa

/-
  Blocks that turn: small laws.
-/
namespace Go.Proofs.Ytjihboddejaelaa
set_option linter.unusedVariables false
set_option linter.unusedSimpArgs false
open Go.RowKit
open Go.BigFrame
open Go.Maps
set_option linter.unusedVariables false
set_option linter.unusedSimpArgs false

theorem Turn.belowN {w w' : World} {b : List (Option Nat)} (h : Turn [] b w w') : Below w.heap.size w w' := ⟨h.os, h.tape, h.output, h.size, fun k hk => h.block k hk (fun h2 => by cases h2)⟩
theorem Turn.newN {w w' : World} {b : List (Option Nat)} (h : Turn [] b w w') : ∀ k, some k ∈ b → w.heap.size ≤ k := fun k hk => by
  rcases h.new k hk with h2 | h2
  · cases h2
  · exact h2

theorem disj_turn {w w' : World} {x x' y : List (Option Nat)} (hd : Disj x y) (ht : Turn x x' w w') (hy : ∀ k, some k ∈ y → k < w.heap.size) : Disj x' y := fun k hk h2 => by
  rcases ht.new k hk with h3 | h3
  · exact hd k h3 h2
  · have := hy k h2; omega
theorem Turn.widen {w w' : World} {x x' : List (Option Nat)} (y : List (Option Nat)) (h : Turn x x' w w') : Turn (x ++ y) x' w w' := h.wide (fun k hk => List.mem_append_left _ hk) (fun k hk => .inl hk)

end Go.Proofs.Ytjihboddejaelaa
