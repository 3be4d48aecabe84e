/-
  What a crash leaves of a log's files, in plain Lean (3): all operations; the first log; what a log that is opened anew reads. No program in sight.
-/
import Derived.Test.YtjihboddejaelaaLogR
import Derived.Test.YtjihboddejaelaaKeptP2
namespace Go.Proofs.Ytjihboddejaelaa
open Go.RowKit
set_option linter.unusedVariables false
set_option linter.unusedSimpArgs false

/-! XKept10 -/
/-- what two files tell -/
def TellsL (l0 l1 : List UInt8) (K : Nat → Option ByteArray) : Prop := slotIx l1 ≠ 2 ∧ Holds l0 (framesOf l1 (slotOf l1 (slotIx l1)).2.1) K
theorem TellsL.of {l0 l1 : List UInt8} {K : Nat → Option ByteArray} {sl N f p : Nat} {fs : List Fr} (h : slotIx l1 = sl ∧ slotOf l1 sl = (N, f, p) ∧ framesOf l1 f = fs) (hs : sl < 2) (hk : Holds l0 fs K) : TellsL l0 l1 K := by
  obtain ⟨h1, h2, h3⟩ := h
  unfold TellsL
  rw [h1, h2, h3]
  exact ⟨by omega, hk⟩
theorem safe_tells {L : Lg} (h : Safe L) {K : Nat → Option ByteArray} (hk : Holds L.D.l0 (L.fs.take L.kept) K) (keep : List Int) : TellsL (L.D.crash keep).l0 (L.D.crash keep).l1 K := by
  obtain ⟨a0, a1⟩ := after_crash h keep
  rw [a0]
  exact .of a1 h.ok.slot hk
theorem mid_one {L : Lg} (h : Synced L) (h64 : 64 ≤ L.D.l1.length) {f p : Nat} (hf : f ≤ L.fs.length) (hp : p < 4294967296) (how : Int) :
    (slotIx (crash1 ⟨1, 16 + 24 * (1 - L.slot), bsOf (slotL (L.number % 3 + 1) f p), false⟩ how L.D.l1 1) = L.slot ∧ slotOf (crash1 ⟨1, 16 + 24 * (1 - L.slot), bsOf (slotL (L.number % 3 + 1) f p), false⟩ how L.D.l1 1) L.slot = (L.number, L.kept, L.pages) ∧ framesOf (crash1 ⟨1, 16 + 24 * (1 - L.slot), bsOf (slotL (L.number % 3 + 1) f p), false⟩ how L.D.l1 1) L.kept = L.fs.take L.kept) ∨
     (slotIx (crash1 ⟨1, 16 + 24 * (1 - L.slot), bsOf (slotL (L.number % 3 + 1) f p), false⟩ how L.D.l1 1) = 1 - L.slot ∧ slotOf (crash1 ⟨1, 16 + 24 * (1 - L.slot), bsOf (slotL (L.number % 3 + 1) f p), false⟩ how L.D.l1 1) (1 - L.slot) = (L.number % 3 + 1, f, p) ∧ framesOf (crash1 ⟨1, 16 + 24 * (1 - L.slot), bsOf (slotL (L.number % 3 + 1) f p), false⟩ how L.D.l1 1) f = L.fs.take f) := by
  unfold crash1
  rw [if_pos rfl]
  by_cases k1 : how = 1
  · rw [if_pos k1]
    have e2 : Ch.done ⟨1, 16 + 24 * (1 - L.slot), bsOf (slotL (L.number % 3 + 1) f p), false⟩ L.D.l1 = toldL L f p := by
      unfold Ch.done toldL
      rw [if_neg (show ¬ (false = true) by decide), bsOf_list]
    rw [e2]
    exact .inr (told_reads h h64 hf hp)
  · rw [if_neg k1]
    by_cases k2 : how = 2
    · rw [if_pos k2]
      have e2 : Ch.done (Ch.half ⟨1, 16 + 24 * (1 - L.slot), bsOf (slotL (L.number % 3 + 1) f p), false⟩) L.D.l1 = halfL L f p := by
        unfold Ch.half
        rw [if_neg (show ¬ (false = true) by decide)]
        unfold Ch.done halfL
        rw [if_neg (by show ¬ (false = true); decide)]
        show putL L.D.l1 (16 + 24 * (1 - L.slot)) ((bsOf (slotL (L.number % 3 + 1) f p)).extract 0 ((bsOf (slotL (L.number % 3 + 1) f p)).size / 2)).data.toList = _
        rw [bsOf_size, slotL_len, extr_part, bsOf_list, bsOf_list]
        rfl
      rw [e2]
      exact .inl (half_reads h h64 f p)
    · rw [if_neg k2]
      have := after_crash h.safe []
      have e3 : (L.D.crash []).l1 = L.D.l1 := by
        show crashL [] L.D.waits 0 1 L.D.l1 = _
        rw [h.waits]; rfl
      rw [e3] at this
      exact .inl ⟨this.2.1, this.2.2.1, this.2.2.2⟩
/-- the log on a disk on which all is settled, its second file l -/
def Lg.settle (L : Lg) (l : List UInt8) : Lg := { L with D := { L.D with l1 := l, waits := [] } }
theorem settle_synced {L : Lg} (h : Safe L) (hfull : L.fs.length = L.kept) {l : List UInt8} (z : zt l (64 + 1028 * L.kept) = zt L.D.l1 (64 + 1028 * L.kept)) (hl : L.D.l1.length ≤ l.length) (hm : l.length ≤ 67108864) : Synced (L.settle l) := by
  obtain ⟨f1, f2, f3, f4, f5⟩ := safe_file h z hl
  have hok : (L.settle l).ok := by
    refine ⟨⟨h.ok.disk.l0, hm, fun c hc => (by cases hc), h.ok.disk.fails⟩, h.ok.frames, fun i f hf => ?_, h.ok.top, h.ok.kept, h.ok.pages, h.ok.slot, h.ok.number⟩
    have hf2 : L.fs[i]? = some f := hf
    have hi : i < L.fs.length := (List.getElem?_eq_some_iff.1 hf2).1
    exact f5 i f (by omega) hf2
  exact ⟨⟨hok, f1, h.num, f2, f3, f4, f5, fun c hc => (by cases hc), fun c hc => (by cases hc)⟩, rfl⟩
theorem settle_crash {L : Lg} (h : Safe L) (hfull : L.fs.length = L.kept) (keep : List Int) : Synced (L.settle (L.D.crash keep).l1) := by
  obtain ⟨z, hl⟩ := crashL_zt keep L.D.waits 0 1 L.D.l1 (64 + 1028 * L.kept) h.waits1
  exact settle_synced h hfull z hl (Dk.crash_ok h.ok.disk keep).l1
theorem settle_seen {L : Lg} (h : Safe L) (hfull : L.fs.length = L.kept) : Synced (L.settle (L.D.seen 1)) := by
  have e1 : (L.D.crash [1]).l1 = L.D.seen 1 := seen_crash _ _ _ _
  rw [← e1]; exact settle_crash h hfull [1]
theorem chsync {D : Dk} (hw : ∀ c ∈ D.waits, c.file = 1) {c : Ch} (hc : c.file = 1) (h1 : ¬ D.stops) (h2 : ¬ (D.change c).stops) :
    (D.change c).sync 1 = ⟨D.l0, c.done (D.seen 1), [], (D.change c).turn.fails, (D.change c).turn.down, (D.change c).turn.count⟩ := by
  have e : (D.change c).sync 1 = (D.change c).syncT 1 := by
    unfold Dk.sync
    rw [if_pos (by decide), if_neg h2]; rfl
  have hs : (D.change c).seen 1 = c.done (D.seen 1) := by
    rw [Dk.change_seen _ _ h1, if_pos hc]
  have hW : (D.change c).waits = D.waits ++ [c] := by
    unfold Dk.change
    rw [if_neg h1]
  have hf : (D.change c).waits.filter (fun c => decide (c.file ≠ 1)) = [] := by
    rw [hW, List.filter_eq_nil_iff]
    intro d hd
    have : d.file = 1 := by
      rcases List.mem_append.1 hd with hd | hd
      · exact hw d hd
      · rw [List.mem_singleton.1 hd]; exact hc
    simp [this]
  rw [e]
  show Dk.mk (if 1 = 0 then _ else (D.change c).l0) (if 1 = 0 then _ else (D.change c).seen 1) ((D.change c).waits.filter (fun c => decide (c.file ≠ 1))) _ _ _ = _
  rw [if_neg (by decide), if_neg (by decide), hs, hf, (change_lasts D c).1]
theorem turn_parts {D E : Dk} (h1 : D.fails = E.fails) (h2 : D.down = E.down) (h3 : D.count = E.count) : (D.stops ↔ E.stops) ∧ D.turn.fails = E.turn.fails ∧ D.turn.down = E.turn.down ∧ D.turn.count = E.turn.count := by
  have hs : D.stops ↔ E.stops := by unfold Dk.stops; rw [h1, h2]
  refine ⟨hs, ?_⟩
  unfold Dk.turn
  by_cases h : D.stops
  · rw [if_pos h, if_pos (hs.1 h)]; exact ⟨h1, rfl, h3⟩
  · rw [if_neg h, if_neg (fun h4 => h (hs.2 h4))]
    exact ⟨by show (if 0 < D.fails then _ else _) = (if 0 < E.fails then _ else _); rw [h1], h2, by show D.count + 1 = E.count + 1; rw [h3]⟩
theorem change_parts {D E : Dk} (c : Ch) (h1 : D.fails = E.fails) (h2 : D.down = E.down) (h3 : D.count = E.count) : (D.change c).fails = (E.change c).fails ∧ (D.change c).down = (E.change c).down ∧ (D.change c).count = (E.change c).count := by
  obtain ⟨hs, t⟩ := turn_parts h1 h2 h3
  unfold Dk.change
  by_cases h : D.stops
  · rw [if_pos h, if_pos (hs.1 h)]; exact t
  · rw [if_neg h, if_neg (fun h4 => h (hs.2 h4))]; exact t
def tellCh (L : Lg) (f p : Nat) : Ch := ⟨1, 16 + 24 * (1 - L.slot), bsOf (slotL (L.number % 3 + 1) f p), false⟩
theorem tellD_eq {L : Lg} (hs : L.slot < 2) (f p : Nat) : L.tellD f p = L.D.change (tellCh L f p) := by
  have hfit : (1 < 2 ∧ 16 + 24 * (1 - L.slot) + (bsOf (slotL (L.number % 3 + 1) f p)).size ≤ 67108864) := ⟨by omega, by rw [bsOf_size, slotL_len]; omega⟩
  have hD : L.tellD f p = L.D.change ⟨(1 : Int).toNat, ((16 + 24 * (1 - L.slot) : Nat) : Int).toNat, bsOf (slotL (L.number % 3 + 1) f p), false⟩ := if_pos (fitsF_iff.2 hfit)
  rw [hD, Int.toNat_natCast]; rfl
theorem Safe.all1 {L : Lg} (h : Safe L) : ∀ c ∈ L.D.waits, c.file = 1 := fun c hc => by
  have h0 := h.waits0 c hc
  have h1 := (h.ok.disk.waits c hc).1
  omega
theorem tell_settle {L : Lg} (h : Safe L) (f p : Nat) (h1 : ¬ L.D.stops) (h2 : ¬ (L.tellD f p).stops) :
    L.tell f p = (L.settle (L.D.seen 1)).tell f p ∧ ¬ (L.settle (L.D.seen 1)).D.stops ∧ ¬ ((L.settle (L.D.seen 1)).tellD f p).stops := by
  have hs := h.ok.slot
  have e1 := tellD_eq hs f p
  have e2 : (L.settle (L.D.seen 1)).tellD f p = (L.settle (L.D.seen 1)).D.change (tellCh L f p) := tellD_eq (L := L.settle (L.D.seen 1)) hs f p
  obtain ⟨t0, _⟩ := turn_parts (D := L.D) (E := (L.settle (L.D.seen 1)).D) rfl rfl rfl
  obtain ⟨c1, c2, c3⟩ := change_parts (D := L.D) (E := (L.settle (L.D.seen 1)).D) (tellCh L f p) rfl rfl rfl
  obtain ⟨u0, u1, u2, u3⟩ := turn_parts c1 c2 c3
  have k1 : ¬ (L.settle (L.D.seen 1)).D.stops := fun h3 => h1 (t0.2 h3)
  have h2' : ¬ (L.D.change (tellCh L f p)).stops := by rw [← e1]; exact h2
  have k2' : ¬ ((L.settle (L.D.seen 1)).D.change (tellCh L f p)).stops := fun h3 => h2' (u0.2 h3)
  have k2 : ¬ ((L.settle (L.D.seen 1)).tellD f p).stops := by rw [e2]; exact k2'
  have a : L.tell f p = { L with D := (L.tellD f p).sync 1, slot := 1 - L.slot, number := L.number % 3 + 1, kept := f, pages := p } := (if_neg h1).trans (if_neg h2)
  have b : (L.settle (L.D.seen 1)).tell f p = { L with D := ((L.settle (L.D.seen 1)).tellD f p).sync 1, slot := 1 - L.slot, number := L.number % 3 + 1, kept := f, pages := p } := (if_neg k1).trans (if_neg k2)
  refine ⟨?_, k1, k2⟩
  rw [a, b, e1, e2, chsync h.all1 rfl h1 h2', chsync (fun c hc => by cases hc) rfl k1 k2', u1, u2, u3]
  rfl

/-! XKept11 -/
theorem crash_turn (D : Dk) (keep : List Int) : (D.turn.crash keep).l0 = (D.crash keep).l0 ∧ (D.turn.crash keep).l1 = (D.crash keep).l1 := by
  obtain ⟨a, b, c⟩ := turn_lasts D
  constructor
  · show crashL keep D.turn.waits 0 0 D.turn.l0 = crashL keep D.waits 0 0 D.l0
    rw [a, c]
  · show crashL keep D.turn.waits 0 1 D.turn.l1 = crashL keep D.waits 0 1 D.l1
    rw [b, c]
theorem tell_out {L : Lg} (h : Safe L) (S : ∀ keep, Synced (L.settle (L.D.crash keep).l1)) (h64 : ∀ keep, 64 ≤ (L.D.crash keep).l1.length) {f p : Nat} (hf : f ≤ L.fs.length) (hp : p < 4294967296) {K M : Nat → Option ByteArray} (hK : Holds L.D.l0 (L.fs.take L.kept) K) (hM : Holds L.D.l0 (L.fs.take f) M) :
    (L.tellE f p = 0 → Synced (L.tell f p) ∧ (L.tell f p).D.l0 = L.D.l0 ∧ (L.tell f p).fs = L.fs ∧ (L.tell f p).kept = f ∧ (L.tell f p).pages = p) ∧
    (L.tellE f p ≠ 0 → (L.tell f p).D.down = true ∧ ∀ keep, TellsL ((L.tell f p).D.crash keep).l0 ((L.tell f p).D.crash keep).l1 K ∨ TellsL ((L.tell f p).D.crash keep).l0 ((L.tell f p).D.crash keep).l1 M) := by
  have hs := h.ok.slot
  have eD := tellD_eq hs f p
  have e1c : (L.D.crash [1]).l1 = L.D.seen 1 := seen_crash _ _ _ _
  by_cases h1 : L.D.stops
  · have eE : L.tellE f p = 2 := if_pos h1
    have eT : L.tell f p = { L with D := L.tellD f p } := if_pos h1
    have eC : L.tellD f p = L.D.turn := by rw [eD]; exact if_pos h1
    have hdn : L.D.turn.down = true := by unfold Dk.turn; rw [if_pos h1]
    refine ⟨fun h2 => (by rw [eE] at h2; cases h2), fun _ => ?_⟩
    rw [eT, eC]
    refine ⟨hdn, fun keep => .inl ?_⟩
    obtain ⟨a, b⟩ := crash_turn L.D keep
    show TellsL (L.D.turn.crash keep).l0 (L.D.turn.crash keep).l1 K
    rw [a, b]
    exact safe_tells h hK keep
  · have eE : L.tellE f p = (L.tellD f p).turnE := if_neg h1
    by_cases h2 : (L.tellD f p).stops
    · have eE2 : L.tellE f p = 2 := eE.trans (if_pos h2)
      have eT : L.tell f p = { L with D := (L.tellD f p).sync 1 } := (if_neg h1).trans (if_pos h2)
      have eY : (L.tellD f p).sync 1 = (L.tellD f p).turn := by
        unfold Dk.sync
        rw [if_pos (by decide), if_pos h2]
      have hdn : (L.tellD f p).turn.down = true := by unfold Dk.turn; rw [if_pos h2]
      refine ⟨fun h3 => (by rw [eE2] at h3; cases h3), fun _ => ?_⟩
      rw [eT, eY]
      refine ⟨hdn, fun keep => ?_⟩
      obtain ⟨a, b⟩ := crash_turn (L.tellD f p) keep
      show TellsL ((L.tellD f p).turn.crash keep).l0 ((L.tellD f p).turn.crash keep).l1 K ∨ TellsL ((L.tellD f p).turn.crash keep).l0 ((L.tellD f p).turn.crash keep).l1 M
      rw [a, b]
      have w0 : (L.tellD f p).l0 = L.D.l0 := by rw [eD]; exact (change_lasts _ _).1
      have w1 : (L.tellD f p).l1 = L.D.l1 := by rw [eD]; exact (change_lasts _ _).2.1
      have w2 : (L.tellD f p).waits = L.D.waits ++ [tellCh L f p] := by
        rw [eD]; unfold Dk.change; rw [if_neg h1]
      have z0 : ((L.tellD f p).crash keep).l0 = L.D.l0 := by
        show crashL keep (L.tellD f p).waits 0 0 (L.tellD f p).l0 = _
        rw [w2, w0]
        refine crashL_none keep _ 0 0 _ fun c hc => ?_
        rcases List.mem_append.1 hc with hc | hc
        · exact h.waits0 c hc
        · rw [List.mem_singleton.1 hc]; show (1 : Nat) ≠ 0; omega
      have z1 : ((L.tellD f p).crash keep).l1 = crash1 (tellCh L f p) (howL keep (0 + L.D.waits.length)) (L.D.crash keep).l1 1 := by
        show crashL keep (L.tellD f p).waits 0 1 (L.tellD f p).l1 = _
        rw [w2, w1, crashL_append]
        rfl
      rw [z0, z1]
      have mo := mid_one (S keep) (h64 keep) hf hp (howL keep (0 + L.D.waits.length))
      rcases mo with mo | mo
      · exact .inl (.of mo hs hK)
      · exact .inr (.of mo (by show 1 - L.slot < 2; omega) hM)
    · have eE2 : L.tellE f p = 0 := eE.trans (if_neg h2)
      refine ⟨fun _ => ?_, fun h3 => absurd eE2 h3⟩
      obtain ⟨t1, t2, t3⟩ := tell_settle h f p h1 h2
      have S1 := S [1]
      rw [e1c] at S1
      have h641 := h64 [1]
      rw [e1c] at h641
      have sy := safe_tell S1 h641 hf hp t2 t3
      obtain ⟨d0, _, _⟩ := told_lasts S1 f p t2 t3
      have b : (L.settle (L.D.seen 1)).tell f p = { L with D := ((L.settle (L.D.seen 1)).tellD f p).sync 1, slot := 1 - L.slot, number := L.number % 3 + 1, kept := f, pages := p } := (if_neg t2).trans (if_neg t3)
      rw [t1]
      refine ⟨sy, ?_⟩
      rw [b]
      exact ⟨d0, rfl, rfl, rfl⟩

/-! XKept12 -/
def withP (K : Nat → Option ByteArray) (n : Nat) (t : ByteArray) : Nat → Option ByteArray := fun m => if m = n then some t else K m
structure Inv (L : Lg) (K N : Nat → Option ByteArray) : Prop where
  safe : Safe L
  l0 : L.D.l0.length ≤ 6144
  six : L.kept ≠ 0 → L.pages = 6
  kept : Holds L.D.l0 (L.fs.take L.kept) K
  now : Holds L.D.l0 L.fs N
def Lost (D : Dk) (K M : Nat → Option ByteArray) : Prop := D.down = true ∧ ∀ keep, TellsL (D.crash keep).l0 (D.crash keep).l1 K ∨ TellsL (D.crash keep).l0 (D.crash keep).l1 M
theorem holds_snoc {l0 : List UInt8} {fs : List Fr} {N : Nat → Option ByteArray} (h : Holds l0 fs N) (n : Nat) (t : ByteArray) : Holds l0 (fs ++ [⟨n, t⟩]) (withP N n t) := fun m hm => by
  have := h m hm
  unfold LiesP withP at *
  rw [lastAt_snoc]
  by_cases hn : m = n
  · subst hn
    rw [if_pos rfl, if_pos (by omega), if_pos rfl, show fs.length + 1 - 1 = fs.length by omega, List.getElem?_append_right (Nat.le_refl _), Nat.sub_self]
    rfl
  · rw [if_neg hn, if_neg (show ¬ ((⟨n, t⟩ : Fr).n : Int) = m by show ¬ ((n : Nat) : Int) = m; omega)]
    by_cases hl : lastAt fs m ≠ 0
    · rw [if_pos hl] at this ⊢
      rw [List.getElem?_append_left (by have := lastAt_le fs m; omega)]
      exact this
    · rw [if_neg hl] at this ⊢; exact this
theorem lost_turn {L : Lg} {K M : Nat → Option ByteArray} (h : Safe L) (hk : Holds L.D.l0 (L.fs.take L.kept) K) (hs : L.D.stops) : Lost L.D.turn K M := by
  refine ⟨by unfold Dk.turn; rw [if_pos hs], fun keep => .inl ?_⟩
  obtain ⟨a, b⟩ := crash_turn L.D keep
  rw [a, b]
  exact safe_tells h hk keep
section
variable {L : Lg} {K N : Nat → Option ByteArray}
theorem append_eq (h : L.ok) (hlen : L.fs.length ≤ 1000) {n : Nat} (hn : n < 6) {t : ByteArray} (ht : t.size = 1024) :
    L.appendE n t = L.D.turnE ∧ L.append n t = { L with D := L.D.change ⟨1, L.at_, bsOf (Fr.bytes ⟨n, t⟩), false⟩, fs := if L.D.stops then L.fs else L.fs ++ [⟨n, t⟩] } := by
  have hf : L.fitsA n t := ⟨by omega, by omega, ht⟩
  have hat : L.at_ = 64 + 1028 * L.fs.length := rfl
  have hfit : L.at_ + 1028 ≤ 67108864 := by omega
  have hb := Fr.bytes_len ⟨n, t⟩ ht
  have hw : fitsF (1 : Nat) (L.at_ : Nat) (bsOf (Fr.bytes ⟨n, t⟩)).size := fitsF_iff.2 ⟨by omega, by rw [bsOf_size]; omega⟩
  refine ⟨(if_pos hf).trans (if_pos hfit), (if_pos ⟨hf, hfit⟩).trans ?_⟩
  have e : L.D.write 1 L.at_ (bsOf (Fr.bytes ⟨n, t⟩)) = L.D.change ⟨1, L.at_, bsOf (Fr.bytes ⟨n, t⟩), false⟩ := by
    refine (if_pos hw).trans ?_
    rw [Int.toNat_natCast]; rfl
  rw [Int.toNat_natCast, e]
theorem append_inv (h : Inv L K N) (hlen : L.fs.length ≤ 1000) {n : Nat} (hn : n < 6) {t : ByteArray} (ht : t.size = 1024) :
    (L.appendE n t = 0 → Inv (L.append n t) K (withP N n t) ∧ (L.append n t).fs.length = L.fs.length + 1) ∧ (L.appendE n t ≠ 0 → Lost (L.append n t).D K K) := by
  obtain ⟨e1, e2⟩ := append_eq h.safe.ok hlen hn ht
  have hs := safe_append h.safe n t
  have hkl := h.safe.ok.kept
  rw [e1]
  by_cases hst : L.D.stops
  · have eE : L.D.turnE = 2 := if_pos hst
    refine ⟨fun h2 => (by rw [eE] at h2; cases h2), fun _ => ?_⟩
    have e3 : (L.append n t).D = L.D.turn := by rw [e2]; exact if_pos hst
    rw [e3]
    exact lost_turn h.safe h.kept hst
  · refine ⟨fun _ => ?_, fun h2 => absurd ((turnE_zero _).2 hst) h2⟩
    rw [e2, if_neg hst] at hs ⊢
    have hl := (change_lasts L.D ⟨1, L.at_, bsOf (Fr.bytes ⟨n, t⟩), false⟩).1
    refine ⟨⟨hs, ?_, h.six, ?_, ?_⟩, by show (L.fs ++ [_]).length = _; simp⟩
    · show (L.D.change _).l0.length ≤ 6144; rw [hl]; exact h.l0
    · show Holds (L.D.change _).l0 ((L.fs ++ [_]).take L.kept) K
      rw [hl, List.take_append_of_le_length hkl]; exact h.kept
    · show Holds (L.D.change _).l0 (L.fs ++ [_]) _
      rw [hl]; exact holds_snoc h.now n t
theorem back_inv (h : Inv L K N) : Inv L.back K K := by
  refine ⟨safe_back h.safe, h.l0, h.six, ?_, h.kept⟩
  show Holds L.D.l0 ((L.fs.take L.kept).take L.kept) K
  rw [List.take_take, Nat.min_self]; exact h.kept
theorem synced_crash {L : Lg} (h : Synced L) (keep : List Int) : L.settle (L.D.crash keep).l1 = L ∧ (L.D.crash keep).l1 = L.D.l1 := by
  have e : (L.D.crash keep).l1 = L.D.l1 := by
    show crashL keep L.D.waits 0 1 L.D.l1 = _
    rw [h.waits]; rfl
  refine ⟨?_, e⟩
  rw [e]
  have hw := h.waits
  obtain ⟨⟨a, b, c, d, e2, f⟩, fs, k, p, s, u⟩ := L
  have hw2 : c = [] := hw
  subst hw2
  rfl
theorem commit_inv (h : Inv L K N) (hlen : L.fs.length ≤ 1000) {n : Nat} (hn : n < 6) {t : ByteArray} (ht : t.size = 1024) :
    (L.commitE n t 6 = 0 → Inv (L.commit n t 6) (withP N n t) (withP N n t) ∧ (L.commit n t 6).fs.length = L.fs.length + 1) ∧ (L.commitE n t 6 ≠ 0 → Lost (L.commit n t 6).D K (withP N n t)) := by
  obtain ⟨a1, a2⟩ := append_inv h hlen hn ht
  have cE : L.commitE n t 6 = if L.appendE n t = 0 then (if (L.append n t).D.stops then 2 else ({ L.append n t with D := (L.append n t).D.sync 1 } : Lg).tellE (L.append n t).fs.length 6) else L.appendE n t := if_pos (by omega)
  have cT : L.commit n t 6 = if L.appendE n t = 0 then (if (L.append n t).D.stops then { L.append n t with D := (L.append n t).D.sync 1 } else ({ L.append n t with D := (L.append n t).D.sync 1 } : Lg).tell (L.append n t).fs.length 6) else L.append n t := if_pos (by omega)
  rw [cE, cT]
  by_cases hA : L.appendE n t = 0
  · obtain ⟨hI, hL⟩ := a1 hA
    have hsl : ∀ A : Lg, A = L.append n t → Safe A := fun A e => by rw [e]; exact hI.safe
    generalize L.append n t = A at *
    rw [if_pos hA, if_pos hA]
    by_cases hst : A.D.stops
    · rw [if_pos hst, if_pos hst]
      refine ⟨fun h2 => (by cases h2), fun _ => ?_⟩
      have eY : A.D.sync 1 = A.D.turn := by
        unfold Dk.sync
        rw [if_pos (by decide), if_pos hst]
      show Lost (A.D.sync 1) K _
      rw [eY]
      exact lost_turn hI.safe hI.kept hst
    · rw [if_neg hst, if_neg hst]
      have sy := safe_sync hI.safe hst
      have s0 := (sync_lasts hI.safe hst).1
      have hkl := sy.safe.ok.kept
      obtain ⟨B, hB⟩ : ∃ B : Lg, ({ A with D := A.D.sync 1 } : Lg) = B := ⟨_, rfl⟩
      have b0 : B.D.l0 = A.D.l0 := by rw [← hB]; exact s0
      have b1 : B.fs = A.fs := by rw [← hB]
      have b2 : B.kept = A.kept := by rw [← hB]
      rw [hB] at sy ⊢
      rw [← b1]
      have hfs : B.fs.length = L.fs.length + 1 := by rw [b1]; exact hL
      have h64 : 64 ≤ B.D.l1.length := by
        have hi : 0 < B.fs.length := by omega
        have hg := List.getElem?_eq_getElem hi
        have := partL_full (synced_lies sy hg) (Fr.bytes_len _ (sy.safe.ok.frames _ (List.mem_of_getElem? hg)).2) (by omega)
        omega
      have hM : Holds B.D.l0 (B.fs.take B.fs.length) (withP N n t) := by
        rw [List.take_of_length_le (Nat.le_refl _), b0, b1]; exact hI.now
      have hK : Holds B.D.l0 (B.fs.take B.kept) K := by rw [b0, b1, b2]; exact hI.kept
      obtain ⟨o1, o2⟩ := tell_out sy.safe (fun keep => by rw [(synced_crash sy keep).1]; exact sy) (fun keep => by rw [(synced_crash sy keep).2]; exact h64) (f := B.fs.length) (p := 6) (Nat.le_refl _) (by omega) hK hM
      refine ⟨fun h2 => ?_, fun h2 => o2 h2⟩
      obtain ⟨p1, p2, p3, p4, p5⟩ := o1 h2
      refine ⟨⟨p1.safe, by rw [p2, b0]; exact hI.l0, fun _ => p5, by rw [p2, p3, p4]; exact hM, ?_⟩, by rw [p3]; exact hfs⟩
      rw [p2, p3, b0, b1]; exact hI.now
  · rw [if_neg hA, if_neg hA]
    refine ⟨fun h2 => absurd h2 hA, fun _ => ?_⟩
    obtain ⟨l1, l2⟩ := a2 hA
    exact ⟨l1, fun keep => .inl ((l2 keep).elim id id)⟩
end

/-! XKept13 -/
theorem turnE_two (D : Dk) : D.turnE = 0 ∨ D.turnE = 2 := by
  unfold Dk.turnE; split
  · exact .inr rfl
  · exact .inl rfl
theorem puts_two {L : Lg} (h : L.ok) : ∀ (k m : Nat) (D : Dk), m + k ≤ 6 → (L.puts k m D).2 = 0 ∨ (L.puts k m D).2 = 2
  | 0, m, D, _ => .inl rfl
  | k + 1, m, D, hm => by
    rw [Lg.puts]
    split
    · exact puts_two h k (m + 1) _ (by omega)
    · by_cases hf : Framed L m
      · rw [(put1_framed D h (show m < 6 by omega) hf).2]
        exact turnE_two D
      · exact .inl (put1_bare D hf).2
theorem wet_tells {L : Lg} {K M : Nat → Option ByteArray} (h : Safe L) (hfull : L.fs.length = L.kept) (hl : L.D.l0.length ≤ 6144) (hk : Holds L.D.l0 (L.fs.take L.kept) K) {D : Dk} (hw : Wet (Framed L) L.D D) (hd : D.down = true) : Lost D K M := by
  refine ⟨hd, fun keep => .inl ?_⟩
  obtain ⟨a0, a1⟩ := after_crash h keep
  obtain ⟨b1, b2, b3⟩ := wet_l0 hw h.waits0 hl keep
  rw [wet_l1 hw keep]
  refine .of a1 h.ok.slot fun n hn => (hk n hn).grow b1 fun hz => b3 n fun hf => ?_
  rw [List.take_of_length_le (by omega)] at hz
  exact hf hz
theorem holds_bare {l0 : List UInt8} {fs : List Fr} {K : Nat → Option ByteArray} (h : Holds l0 fs K) (hlen : l0.length = 6144) (ht : ∀ n : Nat, n < 6 → lastAt fs n ≠ 0 → (fs[lastAt fs n - 1]?).map (·.text) = some (bsOf (zpg l0 n))) : Holds l0 [] K := fun n hn => by
  have := h n hn
  unfold LiesP at this ⊢
  rw [if_neg (show ¬ lastAt [] n ≠ 0 from fun h2 => h2 rfl)]
  by_cases hl : lastAt fs n ≠ 0
  · rw [if_pos hl] at this
    rw [ht n hn hl] at this
    rw [← this]
    exact ⟨rfl, fun _ => by omega⟩
  · rw [if_neg hl] at this
    exact this
theorem zpg_zt (l : List UInt8) (n : Nat) : zpg (zt l 6144) n = zpg l n := by unfold zpg; rw [zt_zt]
theorem safe_nofs {L : Lg} (h : Safe L) (hk : L.kept = 0) : Safe ({ L with fs := [] } : Lg) :=
  ⟨⟨h.ok.disk, fun f hf => (by cases hf), fun i f hf => (by cases hf), .inr rfl, by show L.kept ≤ 0; omega, h.ok.pages, h.ok.slot, h.ok.number⟩,
    h.mark, h.num, h.slot, h.old, h.top, fun i f hi hf => (by cases hf), h.waits1, h.waits0⟩
theorem safe_disk {L : Lg} (h : Safe L) {D3 : Dk} (hok3 : D3.ok) (y1 : D3.l1 = L.D.l1) (y2 : D3.waits = L.D.waits) (y3 : D3.seen 1 = L.D.seen 1) : Safe ({ L with D := D3 } : Lg) := by
  refine ⟨h.ok.same hok3 y3, ?_, h.num, ?_, ?_, ?_, ?_, ?_, ?_⟩
  · show D3.l1.take 16 = markL; rw [y1]; exact h.mark
  · show partL D3.l1 _ 24 = _; rw [y1]; exact h.slot
  · show OldSlot ((zt D3.l1 _).drop _) _; rw [y1]; exact h.old
  · show _ ∨ _ ≤ D3.l1.length; rw [y1]; exact h.top
  · show ∀ i f, i < L.kept → L.fs[i]? = some f → partL D3.l1 (64 + 1028 * i) 1028 = f.bytes; rw [y1]; exact h.lies
  · show ∀ c ∈ D3.waits, _; rw [y2]; exact h.waits1
  · show ∀ c ∈ D3.waits, _; rw [y2]; exact h.waits0
theorem tellE_two (L : Lg) (f p : Nat) : L.tellE f p = 0 ∨ L.tellE f p = 2 := by
  unfold Lg.tellE
  split
  · exact .inr rfl
  · exact turnE_two _
theorem after_put {L : Lg} {K N : Nat → Option ByteArray} (h : Inv L K N) (hfull : L.fs.length = L.kept) (h2 : ¬ L.kept = 0) {D3 : Dk} (hok3 : D3.ok) {s0 : List UInt8} (y0 : D3.l0 = zt s0 6144) (y1 : D3.l1 = L.D.l1) (y2 : D3.waits = L.D.waits) (y3 : D3.seen 1 = L.D.seen 1) (v : ∀ n, ¬ Framed L n → zpg s0 n = zpg L.D.l0 n) (q : ∀ n, n < 6 → Framed L n → bsOf (zpg s0 n) = textOf L n) :
    (({ L with D := D3 } : Lg).tellE 0 6 = 0 → Inv ({ ({ L with D := D3 } : Lg).tell 0 6 with fs := [] } : Lg) K N) ∧ (({ L with D := D3 } : Lg).tellE 0 6 ≠ 0 → Lost (({ L with D := D3 } : Lg).tell 0 6).D K K ∧ ({ L with D := D3 } : Lg).tellE 0 6 = 2) := by
  have hs := safe_disk h.safe hok3 y1 y2 y3
  have hlen : D3.l0.length = 6144 := by rw [y0, zt_len]
  have htake : L.fs.take L.kept = L.fs := List.take_of_length_le (by omega)
  have hgrow : ∀ {J : Nat → Option ByteArray}, Holds L.D.l0 L.fs J → Holds D3.l0 L.fs J := fun hJ n hn => (hJ n hn).grow (by rw [hlen]; exact h.l0) (fun hz => by rw [y0, zpg_zt]; exact v n (fun hf => hf hz))
  have hbare : ∀ {J : Nat → Option ByteArray}, Holds L.D.l0 L.fs J → Holds D3.l0 [] J := fun hJ => holds_bare (hgrow hJ) hlen fun n hn hl => by
    rw [(textOf_size h.safe.ok hl).2, y0, zpg_zt, q n hn hl]
  have hK := h.kept
  rw [htake] at hK
  have htop : 64 ≤ L.D.l1.length := by
    have := h.safe.top
    omega
  have hM : ∃ M : Lg, ({ L with D := D3 } : Lg) = M := ⟨_, rfl⟩
  obtain ⟨M, hM⟩ := hM
  have m0 : M.D = D3 := by rw [← hM]
  have m1 : M.fs = L.fs := by rw [← hM]
  have m2 : M.kept = L.kept := by rw [← hM]
  rw [hM] at hs ⊢
  have hfullM : M.fs.length = M.kept := by rw [m1, m2]; exact hfull
  have hKM : Holds M.D.l0 (M.fs.take M.kept) K := by rw [m0, m1, m2, htake]; exact hgrow hK
  have hK0 : Holds M.D.l0 (M.fs.take 0) K := by rw [m0, List.take_zero]; exact hbare hK
  obtain ⟨o1, o2⟩ := tell_out hs (fun keep => settle_crash hs hfullM keep) (fun keep => by
    obtain ⟨_, hl⟩ := crashL_zt keep M.D.waits 0 1 M.D.l1 (64 + 1028 * M.kept) hs.waits1
    have hl2 : M.D.l1.length ≤ (M.D.crash keep).l1.length := hl
    rw [m0, y1] at hl2
    rw [m0]
    omega) (f := 0) (p := 6) (Nat.zero_le _) (by omega) hKM hK0
  refine ⟨fun h3 => ?_, fun h3 => ?_⟩
  · obtain ⟨p1, p2, p3, p4, p5⟩ := o1 h3
    generalize M.tell 0 6 = T at *
    refine ⟨safe_nofs p1.safe p4, ?_, fun _ => p5, ?_, ?_⟩
    · show T.D.l0.length ≤ 6144
      rw [p2, m0, hlen]; exact Nat.le_refl _
    · show Holds T.D.l0 (([] : List Fr).take T.kept) K
      rw [p2, m0, List.take_nil]; exact hbare hK
    · show Holds T.D.l0 [] N
      rw [p2, m0]; exact hbare h.now
  · obtain ⟨d1, d2⟩ := o2 h3
    exact ⟨⟨d1, fun keep => .inl ((d2 keep).elim id id)⟩, (tellE_two M 0 6).resolve_left h3⟩
set_option maxRecDepth 100000 in
theorem check_inv {L : Lg} {K N : Nat → Option ByteArray} (h : Inv L K N) : ((L.checkpoint.2 = 0 ∨ L.checkpoint.2 = 11) → Inv L.checkpoint.1 K N ∧ L.checkpoint.1.fs.length ≤ L.fs.length) ∧ (¬ (L.checkpoint.2 = 0 ∨ L.checkpoint.2 = 11) → Lost L.checkpoint.1.D K K ∧ (L.checkpoint.2 = 2)) := by
  by_cases h1 : L.fs.length ≠ L.kept
  · have e : L.checkpoint = (L, 11) := if_pos h1
    rw [e]
    exact ⟨fun _ => ⟨h, Nat.le_refl _⟩, fun h2 => absurd (.inr rfl) h2⟩
  · have hfull : L.fs.length = L.kept := Classical.byContradiction h1
    by_cases h2 : L.kept = 0
    · have e : L.checkpoint = (L, 0) := (if_neg h1).trans (if_pos h2)
      rw [e]
      exact ⟨fun _ => ⟨h, Nat.le_refl _⟩, fun h2 => absurd (.inl rfl) h2⟩
    · have h6 := h.six h2
      have e : L.checkpoint = if (L.puts 6 0 L.D).2 ≠ 0 then ({ L with D := (L.puts 6 0 L.D).1 }, (L.puts 6 0 L.D).2) else L.check3 (L.puts 6 0 L.D).1 := by
        have := (if_neg h1).trans (if_neg h2) (a := L.checkpoint)
        rw [← h6]; exact this
      have hok := h.safe.ok
      obtain ⟨w1, w2⟩ := puts_wet hok 6 0 L.D (by omega) (Wet.refl (Framed L) L.D)
      have p2 := puts_two hok 6 0 L.D (by omega)
      have htake : L.fs.take L.kept = L.fs := List.take_of_length_le (by omega)
      have hN0 : Holds L.D.l0 L.fs N := h.now
      have hK0 : Holds L.D.l0 L.fs K := by rw [← htake]; exact h.kept
      have hseen0 : L.D.seen 0 = L.D.l0 := by
        have := seen_crash L.D.waits 0 0 L.D.l0
        rw [crashL_none [1] L.D.waits 0 0 L.D.l0 h.safe.waits0] at this
        exact this.symm
      have ps := puts_seen hok 6 0 L.D (by omega) (by rw [hseen0]; exact h.l0)
      have okp := (puts_ok L 6 0 L.D hok.disk).1
      rw [e]
      by_cases h3 : (L.puts 6 0 L.D).2 ≠ 0
      · rw [if_pos h3]
        have hp : (L.puts 6 0 L.D).2 = 2 := p2.resolve_left h3
        refine ⟨fun h4 => ?_, fun _ => ⟨wet_tells h.safe hfull h.l0 h.kept w1 (w2 h3), hp⟩⟩
        dsimp only at h4
        rw [hp] at h4
        exact absurd h4 (by decide)
      · rw [if_neg h3]
        obtain ⟨q1, q2, _, q4⟩ := ps (Classical.byContradiction h3)
        clear ps p2 w2 h3 e
        generalize (L.puts 6 0 L.D).1 = D1 at *
        have hfit : fitsF (0 : Nat) (1024 * L.pages : Nat) (0 : Nat) := fitsF_iff.2 ⟨by omega, by omega⟩
        have eCE : D1.cutE 0 (1024 * L.pages : Nat) = D1.turnE := if_pos hfit
        have eCD : D1.cutD 0 (1024 * L.pages : Nat) = D1.change ⟨0, 6144, ⟨#[]⟩, true⟩ := by
          refine (if_pos hfit).trans ?_
          rw [Int.toNat_natCast, h6]; rfl
        have hpg : PgCh (Framed L) ⟨0, 6144, ⟨#[]⟩, true⟩ := ⟨rfl, .inl ⟨rfl, rfl⟩⟩
        have w3 := w1.change hpg
        have e3 : L.check3 D1 = if D1.turnE ≠ 0 then ({ L with D := D1.change ⟨0, 6144, ⟨#[]⟩, true⟩ }, D1.turnE) else if (D1.change ⟨0, 6144, ⟨#[]⟩, true⟩).stops then ({ L with D := (D1.change ⟨0, 6144, ⟨#[]⟩, true⟩).sync 0 }, 2) else (if ({ L with D := (D1.change ⟨0, 6144, ⟨#[]⟩, true⟩).sync 0 } : Lg).tellE 0 6 = 0 then ({ ({ L with D := (D1.change ⟨0, 6144, ⟨#[]⟩, true⟩).sync 0 } : Lg).tell 0 6 with fs := [] }, 0) else (({ L with D := (D1.change ⟨0, 6144, ⟨#[]⟩, true⟩).sync 0 } : Lg).tell 0 6, ({ L with D := (D1.change ⟨0, 6144, ⟨#[]⟩, true⟩).sync 0 } : Lg).tellE 0 6)) := by
          have e0 : L.check3 D1 = if D1.cutE 0 (1024 * L.pages : Nat) ≠ 0 then ({ L with D := D1.cutD 0 (1024 * L.pages : Nat) }, D1.cutE 0 (1024 * L.pages : Nat)) else if (D1.cutD 0 (1024 * L.pages : Nat)).stops then ({ L with D := (D1.cutD 0 (1024 * L.pages : Nat)).sync 0 }, 2) else (if ({ L with D := (D1.cutD 0 (1024 * L.pages : Nat)).sync 0 } : Lg).tellE 0 L.pages = 0 then ({ ({ L with D := (D1.cutD 0 (1024 * L.pages : Nat)).sync 0 } : Lg).tell 0 L.pages with fs := [] }, 0) else (({ L with D := (D1.cutD 0 (1024 * L.pages : Nat)).sync 0 } : Lg).tell 0 L.pages, ({ L with D := (D1.cutD 0 (1024 * L.pages : Nat)).sync 0 } : Lg).tellE 0 L.pages)) := rfl
          rw [e0, eCE, eCD, h6]
        rw [e3]
        by_cases h4 : D1.turnE ≠ 0
        · rw [if_pos h4]
          have hp : D1.turnE = 2 := (turnE_two D1).resolve_left h4
          refine ⟨fun h5 => ?_, fun _ => ⟨wet_tells h.safe hfull h.l0 h.kept w3 (change_down h4), hp⟩⟩
          dsimp only at h5
          rw [hp] at h5
          exact absurd h5 (by decide)
        · rw [if_neg h4]
          have h4' : ¬ D1.stops := (turnE_zero D1).1 (Classical.byContradiction h4)
          have hs2 : (D1.change ⟨0, 6144, ⟨#[]⟩, true⟩).seen 0 = zt (D1.seen 0) 6144 := by
            rw [Dk.change_seen _ _ h4', if_pos rfl]
            unfold Ch.done
            rw [if_pos rfl]; rfl
          obtain ⟨v1, v2, v3, v4⟩ := wet_seen w3 h.safe.waits0 h.l0
          obtain ⟨ws, hws, hpgs⟩ := w3.waits
          have w30 := w3.l0
          have w31 := w3.l1
          have hD2ok : (D1.change ⟨0, 6144, ⟨#[]⟩, true⟩).ok := Dk.change_ok okp ⟨by decide, by decide, by decide, fun _ => rfl⟩
          generalize hD2 : D1.change ⟨0, 6144, ⟨#[]⟩, true⟩ = D2 at *
          by_cases h5 : D2.stops
          · rw [if_pos h5]
            have eY : D2.sync 0 = D2.turn := by
              unfold Dk.sync
              rw [if_pos (by decide), if_pos h5]
            refine ⟨fun h6 => absurd h6 (by show ¬ ((2 : Int) = 0 ∨ (2 : Int) = 11); decide), fun _ => ⟨?_, rfl⟩⟩
            show Lost (D2.sync 0) K K
            rw [eY]
            exact wet_tells h.safe hfull h.l0 h.kept w3.turn (by unfold Dk.turn; rw [if_pos h5])
          · rw [if_neg h5]
            have eS : D2.sync 0 = D2.syncT 0 := by
              unfold Dk.sync
              rw [if_pos (by decide), if_neg h5]; rfl
            have y0 : (D2.sync 0).l0 = zt (D1.seen 0) 6144 := by
              rw [eS]
              show (if 0 = 0 then D2.seen 0 else D2.l0) = _
              rw [if_pos rfl, hs2]
            have y1 : (D2.sync 0).l1 = L.D.l1 := by
              rw [eS]
              show (if 0 = 0 then D2.l1 else D2.seen 1) = _
              rw [if_pos rfl, w31]
            have y2 : (D2.sync 0).waits = L.D.waits := by
              rw [eS]
              show D2.waits.filter (fun c => decide (c.file ≠ 0)) = _
              rw [hws, List.filter_append, List.filter_eq_self.2 (fun c hc => by simp [h.safe.waits0 c hc]), List.filter_eq_nil_iff.2 (fun c hc => by simp [(hpgs c hc).1]), List.append_nil]
            have y3 : (D2.sync 0).seen 1 = L.D.seen 1 := by
              have := sync_seen D2 0 (by omega) 1 (by omega)
              exact this.trans v4
            have hD3ok : (D2.sync 0).ok := Dk.sync_ok hD2ok 0
            generalize D2.sync 0 = D3 at *
            obtain ⟨w1s, w2s, w3s, _⟩ := wet_seen w1 h.safe.waits0 h.l0
            obtain ⟨a1, a2⟩ := after_put h hfull h2 hD3ok y0 y1 y2 y3 w3s (fun n hn hf => (q4 n (Nat.zero_le _) (by omega) hf).1)
            by_cases h6 : ({ L with D := D3 } : Lg).tellE 0 6 = 0
            · rw [if_pos h6]
              exact ⟨fun _ => ⟨a1 h6, Nat.zero_le _⟩, fun h7 => absurd (.inl rfl) h7⟩
            · rw [if_neg h6]
              obtain ⟨b1, b2⟩ := a2 h6
              refine ⟨fun h7 => ?_, fun _ => ⟨b1, b2⟩⟩
              dsimp only at h7
              rw [b2] at h7
              exact absurd h7 (by decide)

/-! XKept14 -/
/-- a disk with two files, on which nothing waits -/
def plainD (a b : List UInt8) (f : Int) (n : Nat) : Dk := ⟨a, b, [], f, false, n⟩
def nothing : Nat → Option ByteArray := fun _ => none
theorem zpg_nil (n : Nat) (hn : n < 6) : zpg [] n = List.replicate 1024 0 := by
  refine List.ext_getElem? fun i => ?_
  unfold zpg
  rw [partL_get, List.getElem?_replicate]
  split
  · rw [zt_get, if_pos (by omega), if_neg (by simp)]
  · rfl
theorem holds_nothing : Holds [] [] nothing := fun n hn => by
  unfold LiesP
  rw [if_neg (show ¬ lastAt [] n ≠ 0 from fun h2 => h2 rfl), zpg_nil n hn]
  exact ⟨rfl, fun h => absurd rfl h⟩
theorem putL_nil (t : List UInt8) : putL [] 0 t = t := by
  refine List.ext_getElem? fun i => ?_
  rw [putL_get, zerosTo_get2]
  by_cases h : i < t.length
  · rw [if_pos (by omega)]; rfl
  · rw [if_neg (by omega), if_neg (by simp), if_neg (by omega), List.getElem?_eq_none (by omega)]
def firstL : List UInt8 := markL ++ slotL 1 0 0
theorem firstL_len : firstL.length = 40 := by decide
theorem anew_new (n : Nat) : (anewD (plainD [] [] (-1) n)).l0 = [] ∧ (anewD (plainD [] [] (-1) n)).l1 = firstL ∧ (anewD (plainD [] [] (-1) n)).waits = [] ∧ (anewD (plainD [] [] (-1) n)).fails = -1 ∧ (anewD (plainD [] [] (-1) n)).down = false := by
  have hc : Ch.done ⟨1, 0, ⟨#[]⟩, true⟩ [] = [] := rfl
  have e1 : (plainD [] [] (-1) n).cutD 1 0 = ⟨[], [], [⟨1, 0, ⟨#[]⟩, true⟩], -1, false, n + 1⟩ := rfl
  have e2 : (⟨[], [], [⟨1, 0, ⟨#[]⟩, true⟩], -1, false, n + 1⟩ : Dk).sync 1 = ⟨[], [], [], -1, false, n + 1 + 1⟩ := rfl
  have hs : (bsOf (markL ++ slotL 1 0 ((([] : List UInt8)).length / 1024))).size = 40 := by rw [bsOf_size]; exact firstL_len
  have e3 : (⟨[], [], [], -1, false, n + 1 + 1⟩ : Dk).write 1 0 (bsOf (markL ++ slotL 1 0 ((([] : List UInt8)).length / 1024))) = ⟨[], [], [⟨1, 0, bsOf (markL ++ slotL 1 0 ((([] : List UInt8)).length / 1024)), false⟩], -1, false, n + 1 + 1 + 1⟩ := by
    refine (if_pos ?_).trans ?_
    · rw [hs]; decide
    · rfl
  have e0 : anewD (plainD [] [] (-1) n) = ((((plainD [] [] (-1) n).cutD 1 0).sync 1).write 1 0 (bsOf (markL ++ slotL 1 0 ((([] : List UInt8)).length / 1024)))).sync 1 := rfl
  have e4 : anewD (plainD [] [] (-1) n) = ⟨[], putL [] 0 (bsOf firstL).data.toList, [], -1, false, n + 1 + 1 + 1 + 1⟩ := by
    rw [e0, e1, e2, e3]; rfl
  rw [e4]
  exact ⟨rfl, by show putL [] 0 (bsOf firstL).data.toList = _; rw [bsOf_list, putL_nil], rfl, rfl, rfl⟩
theorem slotIx_nil : slotIx [] = 2 := by decide
theorem start_eq (n : Nat) : Lg.opened (plainD [] [] (-1) n) = ⟨anewD (plainD [] [] (-1) n), [], 0, 0, 0, 1⟩ := (if_pos (c := slotIx ((plainD [] [] (-1) n).seen 1) = 2) slotIx_nil).trans (by rw [show ((plainD [] [] (-1) n).seen 0).length / 1024 = 0 from by show 0 / 1024 = 0; decide])
theorem inv_start (n : Nat) : Inv (Lg.opened (plainD [] [] (-1) n)) nothing nothing := by
  obtain ⟨h0, h1, h2, h3, h4⟩ := anew_new n
  have hok : (Lg.opened (plainD [] [] (-1) n)).ok := opened_ok ⟨by simp [plainD], by simp [plainD], fun c hc => (by cases hc), (by show -1 ≤ (-1 : Int) ∧ (-1 : Int) ≤ 9223372036854775807; decide)⟩
  rw [start_eq] at hok ⊢
  generalize anewD (plainD [] [] (-1) n) = D at *
  have hz : (zt firstL (40 + 24 * (1 - 0))).drop (16 + 24 * (1 - 0)) = List.replicate 24 0 := by decide
  refine ⟨⟨hok, ?_, ⟨Nat.le_refl _, (by show 1 ≤ 3; decide)⟩, ?_, .inl ?_, .inl rfl, fun i f hi hf => (by cases hf), fun c hc => ?_, fun c hc => ?_⟩, ?_, fun h => absurd rfl h, ?_, ?_⟩
  · show D.l1.take 16 = markL; rw [h1]; decide
  · show partL D.l1 (16 + 24 * 0) 24 = slotL 1 0 0; rw [h1]; decide
  · show (zt D.l1 (40 + 24 * (1 - 0))).drop (16 + 24 * (1 - 0)) = _; rw [h1]; exact hz
  · have hc2 : c ∈ D.waits := hc
    rw [h2] at hc2; cases hc2
  · have hc2 : c ∈ D.waits := hc
    rw [h2] at hc2; cases hc2
  · show D.l0.length ≤ 6144; rw [h0]; exact Nat.zero_le _
  · show Holds D.l0 _ _; rw [h0]; exact holds_nothing
  · show Holds D.l0 _ _; rw [h0]; exact holds_nothing
theorem inv_fail {L : Lg} {K N : Nat → Option ByteArray} (h : Inv L K N) {n : Int} (hn : n ≤ 9223372036854775807) : Inv ({ L with D := L.D.fail n } : Lg) K N :=
  ⟨safe_disk h.safe (Dk.fail_ok h.safe.ok.disk hn) rfl rfl rfl, h.l0, h.six, h.kept, h.now⟩

/-- what is asked of a page that is read -/
def FitP (o : Option ByteArray) (e : Int) (s : ByteArray) : Prop := match o with
  | some t => e = 0 ∧ s = t
  | none => e = 0 → s = zeroPage
theorem holds_reads {L : Lg} {K : Nat → Option ByteArray} (hd : L.D.down = false) (h : Holds (L.D.seen 0) L.fs K) (n : Nat) (hn : n < 6) : FitP (K n) (L.readE n) (L.readS n) := by
  have hl := h n hn
  unfold LiesP at hl
  have r0 : 0 ≤ (n : Int) ∧ (n : Int) ≤ 2147483647 := by omega
  have rE : L.readE n = if lastAt L.fs n ≠ 0 then 0 else if (n : Int) < ((L.D.seen 0).length / 1024 : Nat) then 0 else 7 := (if_pos r0).trans (if_neg (by rw [hd]; decide))
  have rS : L.readS n = if lastAt L.fs n ≠ 0 then ((L.fs[lastAt L.fs n - 1]?).map (·.text)).getD ⟨#[]⟩ else if (n : Int) < ((L.D.seen 0).length / 1024 : Nat) then bsOf (partL (L.D.seen 0) (1024 * (n : Int).toNat) 1024) else ⟨#[]⟩ := if_pos ⟨r0.1, r0.2, hd⟩
  rw [rE, rS]
  by_cases hf : lastAt L.fs n ≠ 0
  · rw [if_pos hf] at hl
    rw [if_pos hf, if_pos hf, hl]
    obtain ⟨f, h1, _⟩ := lastAt_get L.fs n hf
    rw [h1] at hl
    rw [← hl]
    exact ⟨rfl, rfl⟩
  · rw [if_neg hf] at hl
    rw [if_neg hf, if_neg hf]
    obtain ⟨h1, h2⟩ := hl
    by_cases hs : (n : Int) < ((L.D.seen 0).length / 1024 : Nat)
    · rw [if_pos hs, if_pos hs, Int.toNat_natCast]
      have e : zpg (L.D.seen 0) n = partL (L.D.seen 0) (1024 * n) 1024 := partL_zt (by omega) (by omega)
      rw [e] at h1
      rw [h1]
      cases K n with
      | none => exact fun _ => rfl
      | some t => exact ⟨rfl, rfl⟩
    · rw [if_neg hs, if_neg hs]
      cases hk : K n with
      | none => exact fun h3 => absurd h3 (by decide)
      | some t =>
        have := h2 (by rw [hk]; exact fun h => by cases h)
        omega
/-- two files tell pages: a log that is opened on them reads these -/
theorem tells_reads {l0 l1 : List UInt8} {K : Nat → Option ByteArray} (h : TellsL l0 l1 K) (n : Nat) (m : Nat) (hm : m < 6) : FitP (K m) ((Lg.opened (plainD l0 l1 (-1) n)).readE m) ((Lg.opened (plainD l0 l1 (-1) n)).readS m) := by
  obtain ⟨h1, h2⟩ := h
  have e : Lg.opened (plainD l0 l1 (-1) n) = ⟨plainD l0 l1 (-1) n, framesOf l1 (slotOf l1 (slotIx l1)).2.1, (slotOf l1 (slotIx l1)).2.1, (slotOf l1 (slotIx l1)).2.2, slotIx l1, (slotOf l1 (slotIx l1)).1⟩ := if_neg h1
  rw [e]
  exact holds_reads (L := ⟨plainD l0 l1 (-1) n, framesOf l1 (slotOf l1 (slotIx l1)).2.1, (slotOf l1 (slotIx l1)).2.1, (slotOf l1 (slotIx l1)).2.2, slotIx l1, (slotOf l1 (slotIx l1)).1⟩) rfl h2 m hm

end Go.Proofs.Ytjihboddejaelaa
