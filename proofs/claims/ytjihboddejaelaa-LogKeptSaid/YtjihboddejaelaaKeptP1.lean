/-
  What a crash leaves of a log's files, in plain Lean (1): a log between its acts is safe; Append, Back, a sync keep it so. No program in sight.
-/
import Derived.Test.YtjihboddejaelaaLogQ
namespace Go.Proofs.Ytjihboddejaelaa
open Go.RowKit
set_option linter.unusedVariables false
set_option linter.unusedSimpArgs false

/-! XKept0 -/
theorem putL_above {l t : List UInt8} {a B : Nat} (hB : B ≤ l.length) (ha : B ≤ a) : (putL l a t).take B = l.take B ∧ l.length ≤ (putL l a t).length := by
  refine ⟨List.ext_getElem? fun i => ?_, by rw [putL_len]; omega⟩
  rw [List.getElem?_take, List.getElem?_take]
  split
  · rw [putL_get, if_neg (by omega), zerosTo_get _ _ _ (by omega)]
  · rfl
theorem crash1_above {c : Ch} {how : Int} {f : Nat} {l : List UInt8} {B : Nat} (hc : c.file = f → c.cut = false ∧ B ≤ c.at_) (hB : B ≤ l.length) : (crash1 c how l f).take B = l.take B ∧ l.length ≤ (crash1 c how l f).length := by
  unfold crash1
  split
  · rename_i hf
    obtain ⟨h1, h2⟩ := hc hf
    split
    · unfold Ch.done
      rw [if_neg (by rw [h1]; decide)]
      exact putL_above hB h2
    · split
      · unfold Ch.half
        rw [if_neg (by rw [h1]; decide)]
        unfold Ch.done
        rw [if_neg (by show ¬ c.cut = true; rw [h1]; decide)]
        exact putL_above hB h2
      · exact ⟨rfl, Nat.le_refl _⟩
  · exact ⟨rfl, Nat.le_refl _⟩
theorem crashL_above (keep : List Int) : ∀ (ws : List Ch) (i f : Nat) (l : List UInt8) (B : Nat), (∀ c ∈ ws, c.file = f → c.cut = false ∧ B ≤ c.at_) → B ≤ l.length → (crashL keep ws i f l).take B = l.take B ∧ l.length ≤ (crashL keep ws i f l).length
  | [], i, f, l, B, _, hB => ⟨rfl, Nat.le_refl _⟩
  | c :: ws, i, f, l, B, h, hB => by
    obtain ⟨h1, h2⟩ := crash1_above (how := howL keep i) (h c (List.mem_cons_self ..)) hB
    obtain ⟨h3, h4⟩ := crashL_above keep ws (i + 1) f _ B (fun d hd => h d (List.mem_cons_of_mem _ hd)) (Nat.le_trans hB h2)
    exact ⟨h3.trans h1, Nat.le_trans h2 h4⟩
/-- a file on which nothing waits is as it was -/
theorem crashL_none (keep : List Int) : ∀ (ws : List Ch) (i f : Nat) (l : List UInt8), (∀ c ∈ ws, c.file ≠ f) → crashL keep ws i f l = l
  | [], i, f, l, _ => rfl
  | c :: ws, i, f, l, h => by
    rw [crashL, show crash1 c (howL keep i) l f = l from if_neg (h c (List.mem_cons_self ..))]
    exact crashL_none keep ws (i + 1) f l fun d hd => h d (List.mem_cons_of_mem _ hd)
theorem partL_take {l l' : List UInt8} {B a n : Nat} (h : l'.take B = l.take B) (hn : a + n ≤ B) : partL l' a n = partL l a n := by
  refine List.ext_getElem? fun i => ?_
  rw [partL_get, partL_get]
  split
  · have h1 := congrArg (fun x : List UInt8 => x[a + i]?) h
    simp only [List.getElem?_take] at h1
    rw [if_pos (by omega), if_pos (by omega)] at h1
    exact h1
  · rfl
/-- the slot that counts: it tells number N, and the other one nothing, or N's predecessor -/
theorem ix_of {l : List UInt8} {sl N f p : Nat} (hm : l.take 16 = markL) (hsl : sl < 2) (hN : 1 ≤ N ∧ N ≤ 3) (hs : slotOf l sl = (N, f, p)) (ho : (slotOf l (1 - sl)).1 = 0 ∨ (slotOf l (1 - sl)).1 % 3 + 1 = N) : slotIx l = sl := by
  have hg : (slotOf l (1 - sl)).1 ≠ 0 → (slotOf l (1 - sl)).1 ≤ 3 := fun h => (slotOf_good h).1
  have hs1 : (slotOf l sl).1 = N := by rw [hs]
  unfold slotIx
  obtain rfl | rfl : sl = 0 ∨ sl = 1 := by omega
  · rw [show 1 - 0 = 1 from rfl] at ho hg
    rw [hs1, if_neg (fun h => h.elim (fun h2 => h2 hm) (fun h2 => by omega)), if_neg (fun h => by omega)]
  · rw [show 1 - 1 = 0 from rfl] at ho hg
    rw [hs1, if_neg (fun h => h.elim (fun h2 => h2 hm) (fun h2 => by omega)), if_pos (by omega)]
theorem unK_beK : ∀ (k n : Nat), n < 256 ^ k → unK (beK n k) = n
  | 0, n, h => by have : n = 0 := by simpa using h
                  subst this; rfl
  | k + 1, n, h => by
    rw [beK, unK_snoc, unK_beK k (n / 256) (by rw [Nat.pow_succ] at h; omega), UInt8.toNat_ofNat']
    omega
theorem unK_beK4 {n : Nat} (h : n < 4294967296) : unK (beK n 4) = n := unK_beK 4 n (by omega)
theorem unK_take4 {n : Nat} (r : List UInt8) (hn : n < 4294967296) : unK ((beK n 4 ++ r).take 4) = n := by
  rw [List.take_append_of_le_length (by rw [beK_len]; omega), List.take_of_length_le (by rw [beK_len]; omega)]
  exact unK_beK4 hn
/-- a slot as it was written is told -/
theorem slotOf_slotL {l : List UInt8} {k n f p : Nat} (hl : 40 + 24 * k ≤ l.length) (ht : partL l (16 + 24 * k) 24 = slotL n f p) (hn : 1 ≤ n ∧ n ≤ 3) (hf : f < 4294967296) (hp : p < 4294967296) (hff : f = 0 ∨ 64 + 1028 * f ≤ l.length) : slotOf l k = (n, f, p) := by
  have e1 : unK ((slotL n f p).take 4) = n := by
    unfold slotL; rw [List.append_assoc, List.append_assoc, List.append_assoc]; exact unK_take4 _ (by omega)
  have e2 : unK (partL (slotL n f p) 4 4) = f := by
    unfold partL slotL
    rw [List.append_assoc, List.append_assoc, List.append_assoc, List.drop_append_of_le_length (by rw [beK_len]; omega), List.drop_of_length_le (by rw [beK_len]; omega), List.nil_append]
    exact unK_take4 _ hf
  have e3 : unK (partL (slotL n f p) 8 4) = p := by
    have h1 : slotL n f p = (beK n 4 ++ beK f 4) ++ (beK p 4 ++ (beK n 4 ++ beK f 4 ++ beK p 4)) := by unfold slotL; simp [List.append_assoc]
    have h2 : (beK n 4 ++ beK f 4).length = 8 := by simp [beK_len]
    unfold partL
    rw [h1, List.drop_append_of_le_length (by omega), List.drop_of_length_le (by omega), List.nil_append]
    exact unK_take4 _ hp
  rw [slotOf_near (by omega) ht e1 e2 e3, if_pos ⟨rfl, hn.1, hn.2, hff⟩]

/-! XKept1 -/
/-- the first B bytes of a file, zeros where it ends -/
def zt (l : List UInt8) (B : Nat) : List UInt8 := (zerosTo l B).take B
theorem zerosTo_get2 (l : List UInt8) (n i : Nat) : (zerosTo l n)[i]? = if i < l.length then l[i]? else if i < n then some 0 else none := by
  unfold zerosTo
  rw [List.getElem?_append]
  split
  · rfl
  · rename_i h
    rw [List.getElem?_replicate]
    by_cases h2 : i < n
    · rw [if_pos h2, if_pos (by omega)]
    · rw [if_neg h2, if_neg (by omega)]
theorem zt_get (l : List UInt8) (B i : Nat) : (zt l B)[i]? = if i < B then (if i < l.length then l[i]? else some 0) else none := by
  unfold zt
  rw [List.getElem?_take]
  split
  · rw [zerosTo_get2]
    split
    · rfl
    · first
        | rfl
        | (rename_i h1 h2; rw [if_pos h1])
  · rfl
theorem zt_put {l t : List UInt8} {a B : Nat} (ha : B ≤ a) : zt (putL l a t) B = zt l B := by
  refine List.ext_getElem? fun i => ?_
  rw [zt_get, zt_get]
  split
  · rename_i hi
    have hl := putL_len l a t
    by_cases h0 : i < (putL l a t).length
    · rw [if_pos h0, putL_get, if_neg (by omega), zerosTo_get2]
      by_cases h1 : i < l.length
      · rw [if_pos h1, if_pos h1]
      · rw [if_neg h1, if_neg h1, if_pos (by omega)]
    · rw [if_neg h0, if_neg (by omega)]
  · rfl
theorem crash1_zt {c : Ch} {how : Int} {f : Nat} {l : List UInt8} {B : Nat} (hc : c.file = f → c.cut = false ∧ B ≤ c.at_) : zt (crash1 c how l f) B = zt l B ∧ l.length ≤ (crash1 c how l f).length := by
  unfold crash1
  split
  · rename_i hf
    obtain ⟨h1, h2⟩ := hc hf
    have hp : ∀ t : List UInt8, l.length ≤ (putL l c.at_ t).length := fun t => by rw [putL_len]; omega
    split
    · unfold Ch.done
      rw [if_neg (by rw [h1]; decide)]
      exact ⟨zt_put h2, hp _⟩
    · split
      · unfold Ch.half
        rw [if_neg (by rw [h1]; decide)]
        unfold Ch.done
        rw [if_neg (by show ¬ c.cut = true; rw [h1]; decide)]
        exact ⟨zt_put h2, hp _⟩
      · exact ⟨rfl, Nat.le_refl _⟩
  · exact ⟨rfl, Nat.le_refl _⟩
theorem crashL_zt (keep : List Int) : ∀ (ws : List Ch) (i f : Nat) (l : List UInt8) (B : Nat), (∀ c ∈ ws, c.file = f → c.cut = false ∧ B ≤ c.at_) → zt (crashL keep ws i f l) B = zt l B ∧ l.length ≤ (crashL keep ws i f l).length
  | [], i, f, l, B, _ => ⟨rfl, Nat.le_refl _⟩
  | c :: ws, i, f, l, B, h => by
    obtain ⟨h1, h2⟩ := crash1_zt (how := howL keep i) (l := l) (h c (List.mem_cons_self ..))
    obtain ⟨h3, h4⟩ := crashL_zt keep ws (i + 1) f (crash1 c (howL keep i) l f) B (fun d hd => h d (List.mem_cons_of_mem _ hd))
    exact ⟨h3.trans h1, Nat.le_trans h2 h4⟩
theorem partL_zt {l : List UInt8} {B a n : Nat} (hn : a + n ≤ B) (hl : a + n ≤ l.length) : partL (zt l B) a n = partL l a n := by
  refine List.ext_getElem? fun i => ?_
  rw [partL_get, partL_get]
  split
  · rw [zt_get, if_pos (by omega), if_pos (by omega)]
  · rfl
/-- what a slot that does not count holds: nothing, or the commit ahead of the last one -/
def OldSlot (t : List UInt8) (N : Nat) : Prop := t = List.replicate 24 0 ∨ ∃ n f p, 1 ≤ n ∧ n ≤ 3 ∧ n % 3 + 1 = N ∧ f < 4294967296 ∧ p < 4294967296 ∧ t = slotL n f p
theorem slotL_parts12 (n f p : Nat) : (slotL n f p).take 4 = beK n 4 := by
  unfold slotL
  rw [List.append_assoc, List.append_assoc, List.append_assoc, List.take_append_of_le_length (by rw [beK_len]; omega), List.take_of_length_le (by rw [beK_len]; omega)]
theorem old_told {l : List UInt8} {k N : Nat} (h : OldSlot (zt l (40 + 24 * k) |>.drop (16 + 24 * k)) N) : (slotOf l k).1 = 0 ∨ (slotOf l k).1 % 3 + 1 = N := by
  by_cases hz : (slotOf l k).1 = 0
  · exact .inl hz
  · have hl : ¬ l.length < 40 + 24 * k := fun h2 => hz (by rw [slotOf_far h2])
    have ht : partL l (16 + 24 * k) 24 = (zt l (40 + 24 * k)).drop (16 + 24 * k) := by
      rw [← partL_zt (B := 40 + 24 * k) (by omega) (by omega)]
      unfold partL
      rw [List.take_of_length_le]
      rw [List.length_drop]
      unfold zt
      rw [List.length_take]; omega
    rw [← ht] at h
    have h1 : (slotOf l k).1 = unK ((partL l (16 + 24 * k) 24).take 4) := by
      unfold slotOf at hz ⊢
      rw [if_neg hl] at hz ⊢
      dsimp only at hz ⊢
      split
      · rename_i h2; rw [if_pos h2] at hz; exact absurd rfl hz
      · rfl
    rcases h with h | ⟨n, f, p, n1, n2, n3, _, _, h⟩
    · rw [h1, h] at hz
      exact absurd (by decide) hz
    · right
      rw [h1, h, slotL_parts12, unK_beK4 (by omega)]
      exact n3

/-! XKept2 -/
structure Safe (L : Lg) : Prop where
  ok : L.ok
  mark : L.D.l1.take 16 = markL
  num : 1 ≤ L.number ∧ L.number ≤ 3
  slot : partL L.D.l1 (16 + 24 * L.slot) 24 = slotL L.number L.kept L.pages
  old : OldSlot ((zt L.D.l1 (40 + 24 * (1 - L.slot))).drop (16 + 24 * (1 - L.slot))) L.number
  top : L.kept = 0 ∨ 64 + 1028 * L.kept ≤ L.D.l1.length
  lies : ∀ i f, i < L.kept → L.fs[i]? = some f → partL L.D.l1 (64 + 1028 * i) 1028 = f.bytes
  waits1 : ∀ c ∈ L.D.waits, c.file = 1 → c.cut = false ∧ 64 + 1028 * L.kept ≤ c.at_
  waits0 : ∀ c ∈ L.D.waits, c.file ≠ 0
theorem zt_le {l l' : List UInt8} {B b : Nat} (h : zt l' B = zt l B) (hb : b ≤ B) : zt l' b = zt l b := by
  refine List.ext_getElem? fun i => ?_
  have h1 : (zt l' B)[i]? = (zt l B)[i]? := by rw [h]
  rw [zt_get, zt_get] at h1
  rw [zt_get, zt_get]
  by_cases hi : i < b
  · have hB : i < B := by omega
    rw [if_pos hB, if_pos hB] at h1
    rw [if_pos hi, if_pos hi]; exact h1
  · rw [if_neg hi, if_neg hi]
theorem partL_same {l l' : List UInt8} {B a n : Nat} (h : zt l' B = zt l B) (hl : l.length ≤ l'.length) (hn : a + n ≤ B) (hln : a + n ≤ l.length) : partL l' a n = partL l a n := by
  rw [← partL_zt hn (Nat.le_trans hln hl), h, partL_zt hn hln]
theorem frameAt_bytes {l : List UInt8} {i : Nat} {f : Fr} (h : partL l (64 + 1028 * i) 1028 = f.bytes) (hn : f.n < 4294967296) (ht : f.text.size = 1024) : frameAt l i = f := by
  obtain ⟨n, t⟩ := f
  have ht2 : t.size = 1024 := ht
  unfold frameAt
  have e1 : partL l (64 + 1028 * i) 4 = beK n 4 := by
    have := partL_part l (64 + 1028 * i) 1028 0 4 (by omega)
    rw [Nat.add_zero, h] at this
    rw [← this]
    unfold partL Fr.bytes
    rw [List.drop_zero, List.take_append_of_le_length (by rw [beK_len]; omega), List.take_of_length_le (by rw [beK_len]; omega)]
  have e2 : partL l (64 + 1028 * i + 4) 1024 = t.data.toList := by
    rw [← partL_part l (64 + 1028 * i) 1028 4 1024 (by omega), h]
    unfold partL Fr.bytes
    rw [List.drop_append_of_le_length (by rw [beK_len]; omega), List.drop_of_length_le (by rw [beK_len]; omega), List.nil_append, List.take_of_length_le (by rw [Array.length_toList]; show t.size ≤ _; omega)]
  rw [e1, e2, unK_beK4 hn, bsOf_of]
theorem after_crash {L : Lg} (h : Safe L) (keep : List Int) :
    (L.D.crash keep).l0 = L.D.l0 ∧ slotIx (L.D.crash keep).l1 = L.slot ∧ slotOf (L.D.crash keep).l1 L.slot = (L.number, L.kept, L.pages) ∧ framesOf (L.D.crash keep).l1 L.kept = L.fs.take L.kept := by
  obtain ⟨z, hl⟩ := crashL_zt keep L.D.waits 0 1 L.D.l1 (64 + 1028 * L.kept) h.waits1
  have e0 : (L.D.crash keep).l0 = L.D.l0 := crashL_none keep L.D.waits 0 0 L.D.l0 h.waits0
  have e1 : (L.D.crash keep).l1 = crashL keep L.D.waits 0 1 L.D.l1 := rfl
  rw [e1]
  generalize crashL keep L.D.waits 0 1 L.D.l1 = l' at *
  have hs2 := h.ok.slot
  have hlen := h.ok.len
  have hkl := h.ok.kept
  have hsl := partL_full h.slot (slotL_len _ _ _) (by omega)
  have h16 : 16 ≤ L.D.l1.length := by omega
  have em : l'.take 16 = markL := by
    have := partL_same (a := 0) (n := 16) z hl (by omega) (by omega)
    rw [partL_zero, partL_zero] at this
    rw [this]; exact h.mark
  have es : slotOf l' L.slot = (L.number, L.kept, L.pages) :=
    slotOf_slotL (by omega) ((partL_same z hl (by omega) (by omega)).trans h.slot) h.num (by omega) h.ok.pages (by
      rcases h.top with h2 | h2
      · exact .inl h2
      · exact .inr (by omega))
  have eo := old_told (l := l') (k := 1 - L.slot) (N := L.number) (by rw [zt_le z (by omega)]; exact h.old)
  refine ⟨e0, ix_of em hs2 h.num es eo, es, ?_⟩
  refine List.ext_getElem? fun i => ?_
  rw [List.getElem?_take]
  by_cases hi : i < L.kept
  · have hil : i < L.fs.length := by omega
    have hf := List.getElem?_eq_getElem hil
    have hb := h.lies i _ hi hf
    have hfr := h.ok.frames _ (List.getElem_mem hil)
    have hfull := partL_full hb (Fr.bytes_len _ hfr.2) (by omega)
    have hb2 := (partL_same z hl (by omega) hfull).trans hb
    have hfa := frameAt_bytes hb2 hfr.1 hfr.2
    rw [if_pos hi, hf]
    have hli : i < (framesOf l' L.kept).length := by rw [framesOf_len]; exact hi
    have hg := List.getElem?_eq_getElem hli
    rw [hg]
    rw [(framesOf_get _ _ _ _ hg).2, hfa]
  · rw [if_neg hi, List.getElem?_eq_none (by rw [framesOf_len]; omega)]
/-- the log that is opened behind a crash -/
theorem opened_safe {L : Lg} (h : Safe L) (keep : List Int) : Lg.opened (L.D.crash keep) = ⟨L.D.crash keep, L.fs.take L.kept, L.kept, L.pages, L.slot, L.number⟩ ∧ (L.D.crash keep).seen 0 = L.D.l0 := by
  obtain ⟨a0, a1, a2, a3⟩ := after_crash h keep
  have hs := h.ok.slot
  have s1 : (L.D.crash keep).seen 1 = (L.D.crash keep).l1 := rfl
  have s0 : (L.D.crash keep).seen 0 = (L.D.crash keep).l0 := rfl
  refine ⟨?_, s0.trans a0⟩
  have hx : slotIx ((L.D.crash keep).seen 1) ≠ 2 := by rw [s1, a1]; omega
  have e : Lg.opened (L.D.crash keep) = ⟨L.D.crash keep, framesOf ((L.D.crash keep).seen 1) (slotOf ((L.D.crash keep).seen 1) (slotIx ((L.D.crash keep).seen 1))).2.1, (slotOf ((L.D.crash keep).seen 1) (slotIx ((L.D.crash keep).seen 1))).2.1, (slotOf ((L.D.crash keep).seen 1) (slotIx ((L.D.crash keep).seen 1))).2.2, slotIx ((L.D.crash keep).seen 1), (slotOf ((L.D.crash keep).seen 1) (slotIx ((L.D.crash keep).seen 1))).1⟩ := if_neg hx
  rw [e, s1, a1, a2, a3]

/-! XKept3 -/
theorem turn_lasts (D : Dk) : D.turn.l0 = D.l0 ∧ D.turn.l1 = D.l1 ∧ D.turn.waits = D.waits := by
  unfold Dk.turn; split <;> exact ⟨rfl, rfl, rfl⟩
theorem change_lasts (D : Dk) (c : Ch) : (D.change c).l0 = D.l0 ∧ (D.change c).l1 = D.l1 ∧ ((D.change c).waits = D.waits ∨ (D.change c).waits = D.waits ++ [c]) := by
  obtain ⟨h1, h2, h3⟩ := turn_lasts D
  unfold Dk.change
  split
  · exact ⟨h1, h2, .inl h3⟩
  · exact ⟨h1, h2, .inr rfl⟩
theorem safe_append {L : Lg} (h : Safe L) (n : Int) (t : ByteArray) : Safe (L.append n t) := by
  have hok := append_ok h.ok n t
  by_cases hf : L.fitsA n t ∧ L.at_ + 1028 ≤ 67108864
  · have e : L.append n t = { L with D := L.D.write 1 L.at_ (bsOf (Fr.bytes ⟨n.toNat, t⟩)), fs := if L.D.stops then L.fs else L.fs ++ [⟨n.toNat, t⟩] } := if_pos hf
    rw [e] at hok ⊢
    have hD : (L.D.write 1 L.at_ (bsOf (Fr.bytes ⟨n.toNat, t⟩))).l0 = L.D.l0 ∧ (L.D.write 1 L.at_ (bsOf (Fr.bytes ⟨n.toNat, t⟩))).l1 = L.D.l1 ∧ ∀ c ∈ (L.D.write 1 L.at_ (bsOf (Fr.bytes ⟨n.toNat, t⟩))).waits, c ∈ L.D.waits ∨ (c.file = 1 ∧ c.cut = false ∧ c.at_ = L.at_) := by
      unfold Dk.write
      split
      · obtain ⟨h1, h2, h3⟩ := change_lasts L.D ⟨(1 : Int).toNat, (L.at_ : Int).toNat, bsOf (Fr.bytes ⟨n.toNat, t⟩), false⟩
        refine ⟨h1, h2, fun c hc => ?_⟩
        rcases h3 with h3 | h3
        · rw [h3] at hc; exact .inl hc
        · rw [h3] at hc
          rcases List.mem_append.1 hc with hc | hc
          · exact .inl hc
          · rw [List.mem_singleton.1 hc]; exact .inr ⟨rfl, rfl, Int.toNat_natCast _⟩
      · exact ⟨rfl, rfl, fun c hc => .inl hc⟩
    have hkl := h.ok.kept
    have hat : L.at_ = 64 + 1028 * L.fs.length := rfl
    obtain ⟨d0, d1, dw⟩ := hD
    generalize L.D.write 1 L.at_ (bsOf (Fr.bytes ⟨n.toNat, t⟩)) = X at *
    refine ⟨hok, ?_, h.num, ?_, ?_, ?_, fun i f hi hf2 => ?_, fun c hc h1 => ?_, fun c hc h0 => ?_⟩
    · show X.l1.take 16 = _; rw [d1]; exact h.mark
    · show partL X.l1 _ _ = _; rw [d1]; exact h.slot
    · show OldSlot ((zt X.l1 _).drop _) _; rw [d1]; exact h.old
    · show _ ∨ _ ≤ X.l1.length; rw [d1]; exact h.top
    · show partL X.l1 _ _ = _
      rw [d1]
      refine h.lies i f hi ?_
      have hi2 : i < L.kept := hi
      dsimp only at hf2
      split at hf2
      · exact hf2
      · rw [List.getElem?_append_left (by omega)] at hf2; exact hf2
    · rcases dw c hc with h2 | ⟨h2, h3, h4⟩
      · exact h.waits1 c h2 h1
      · exact ⟨h3, by show 64 + 1028 * L.kept ≤ _; rw [h4]; omega⟩
    · rcases dw c hc with h2 | ⟨h2, _, _⟩
      · exact h.waits0 c h2 h0
      · omega
  · have e : L.append n t = L := if_neg hf
    rw [e]; exact h
theorem safe_back {L : Lg} (h : Safe L) : Safe L.back := by
  have hok := back_ok h.ok
  refine ⟨hok, h.mark, h.num, h.slot, h.old, h.top, fun i f hi hf => h.lies i f hi ?_, h.waits1, h.waits0⟩
  have hf2 : (L.fs.take L.kept)[i]? = some f := hf
  have hi2 : i < L.kept := hi
  rw [List.getElem?_take, if_pos hi2] at hf2
  exact hf2
/-- what is seen is what a crash leaves that keeps all -/
theorem seen_crash : ∀ (ws : List Ch) (i f : Nat) (l : List UInt8), crashL [1] ws i f l = seenL ws f l
  | [], i, f, l => rfl
  | c :: ws, i, f, l => by
    have hh : howL [1] i = 1 := by unfold howL; rw [if_neg (by decide), List.length_singleton, Nat.mod_one]; rfl
    rw [crashL, seenL, hh, seen_crash ws (i + 1) f]
    congr 1

/-! XKept4 -/
/-- a file that reads as the lasting one up to the committed frames -/
theorem safe_file {L : Lg} (h : Safe L) {l' : List UInt8} (z : zt l' (64 + 1028 * L.kept) = zt L.D.l1 (64 + 1028 * L.kept)) (hl : L.D.l1.length ≤ l'.length) :
    l'.take 16 = markL ∧ partL l' (16 + 24 * L.slot) 24 = slotL L.number L.kept L.pages ∧ OldSlot ((zt l' (40 + 24 * (1 - L.slot))).drop (16 + 24 * (1 - L.slot))) L.number ∧ (L.kept = 0 ∨ 64 + 1028 * L.kept ≤ l'.length) ∧ (∀ (i : Nat) (f : Fr), i < L.kept → L.fs[i]? = some f → partL l' (64 + 1028 * i) 1028 = f.bytes) := by
  have hs2 := h.ok.slot
  have hkl := h.ok.kept
  have hsl := partL_full h.slot (slotL_len _ _ _) (by omega)
  refine ⟨?_, (partL_same z hl (by omega) (by omega)).trans h.slot, by rw [zt_le z (by omega)]; exact h.old, h.top.imp id (fun h2 => by omega), fun i f hi hf => ?_⟩
  · have := partL_same (a := 0) (n := 16) z hl (by omega) (by omega)
    rw [partL_zero, partL_zero] at this
    rw [this]; exact h.mark
  · have hfr := h.ok.frames f (List.mem_of_getElem? hf)
    have hb := h.lies i f hi hf
    have hfull := partL_full hb (Fr.bytes_len _ hfr.2) (by omega)
    exact (partL_same z hl (by omega) hfull).trans hb
/-- behind a sync of the log's file that did not fail: nothing waits, and what was seen lasts -/
structure Synced (L : Lg) : Prop where
  safe : Safe L
  waits : L.D.waits = []
theorem sync_lasts {L : Lg} (h : Safe L) (hs : ¬ L.D.stops) : (L.D.sync 1).l0 = L.D.l0 ∧ (L.D.sync 1).l1 = L.D.seen 1 ∧ (L.D.sync 1).waits = [] := by
  have e : L.D.sync 1 = L.D.syncT 1 := by
    unfold Dk.sync
    rw [if_pos (by decide), if_neg hs]; rfl
  rw [e]
  refine ⟨rfl, rfl, ?_⟩
  show L.D.waits.filter (fun c => decide (c.file ≠ 1)) = []
  rw [List.filter_eq_nil_iff]
  intro c hc
  have h0 := h.waits0 c hc
  have h1 := (h.ok.disk.waits c hc).1
  have : c.file = 1 := by omega
  simp [this]
theorem safe_sync {L : Lg} (h : Safe L) (hs : ¬ L.D.stops) : Synced ({ L with D := L.D.sync 1 } : Lg) := by
  obtain ⟨s0, s1, s2⟩ := sync_lasts h hs
  have hok : ({ L with D := L.D.sync 1 } : Lg).ok := h.ok.same (Dk.sync_ok h.ok.disk 1) (sync_seen L.D 1 (by omega) 1 (by omega))
  obtain ⟨z, hl⟩ := crashL_zt [1] L.D.waits 0 1 L.D.l1 (64 + 1028 * L.kept) h.waits1
  rw [seen_crash] at z hl
  have hseen : seenL L.D.waits 1 L.D.l1 = L.D.seen 1 := rfl
  rw [hseen] at z hl
  obtain ⟨f1, f2, f3, f4, f5⟩ := safe_file h z hl
  generalize L.D.sync 1 = X at *
  rw [← s1] at f1 f2 f3 f4 f5
  refine ⟨⟨hok, f1, h.num, f2, f3, f4, f5, fun c hc => ?_, fun c hc => ?_⟩, s2⟩
  · have hc2 : c ∈ X.waits := hc
    rw [s2] at hc2; cases hc2
  · have hc2 : c ∈ X.waits := hc
    rw [s2] at hc2; cases hc2
/-- all frames of a log on whose disk nothing waits last -/
theorem synced_lies {L : Lg} (h : Synced L) {i : Nat} {f : Fr} (hf : L.fs[i]? = some f) : partL L.D.l1 (64 + 1028 * i) 1028 = f.bytes := by
  have h1 := h.safe.ok.lies i f hf
  have e : L.D.seen 1 = L.D.l1 := by
    unfold Dk.seen
    rw [h.waits]; rfl
  rw [e] at h1
  exact h1

end Go.Proofs.Ytjihboddejaelaa
