/-
  The log of the law LogKept in memory, beside the maps that tell what it is to hold; its operations.
-/
import Derived.Test.YtjihboddejaelaaKeptE
import Derived.Test.YtjihboddejaelaaLog18
namespace Go.Proofs.Ytjihboddejaelaa
open Go.RowKit
open Go.BigFrame
open Go.Maps
set_option linter.unusedVariables false
set_option linter.unusedSimpArgs false

def lift (K : Nat → Option ByteArray) : Int → Option ByteArray := fun x => if 0 ≤ x then K x.toNat else none
theorem lift_nat (K : Nat → Option ByteArray) (n : Nat) : lift K n = K n := by
  unfold lift; rw [if_pos (by omega), Int.toNat_natCast]
theorem lift_with (K : Nat → Option ByteArray) (n : Nat) (t : ByteArray) : (fun y : Int => if y = (n : Int) then some t else lift K y) = lift (withP K n t) := by
  funext y
  unfold lift withP
  by_cases hy : y = (n : Int)
  · subst hy
    rw [if_pos rfl, if_pos (by omega), Int.toNat_natCast, if_pos rfl]
  · rw [if_neg hy]
    by_cases h0 : 0 ≤ y
    · rw [if_pos h0, if_pos h0, if_neg (by omega)]
    · rw [if_neg h0, if_neg h0]
theorem lift_nothing : lift nothing = fun _ => none := by
  funext y; unfold lift nothing; split <;> rfl

/-- the log L and the maps of what was committed (K), of what is there now (N), in memory that was made since w0 -/
structure KW (w0 w : World) (b : List (Option Nat)) (gd g m1 m2 : Nat) (L : Lg) (kb nb c : Nat) (K N : Nat → Option ByteArray) : Prop where
  p : LR w b gd g m1 m2 L.rw
  low : ∀ k, some k ∈ b ++ lb g m1 m2 → w0.heap.size ≤ k
  bel : Below w0.heap.size w0 w
  mK : MS w kb c (lift K)
  mN : MS w nb c (lift N)
  offk : some kb ∉ b ++ lb g m1 m2
  offn : some nb ∉ b ++ lb g m1 m2
def KPost (w0 : World) (gd g : Nat) (L' : Lg) (kb nb c : Nat) (K N : Nat → Option ByteArray) (v : Value) (e : Ending) (w' : World) : Prop :=
  e = .returned v ∧ ∃ b' m1' m2', KW w0 w' b' gd g m1' m2' L' kb nb c K N
section
variable {w0 w w' : World} {b b' : List (Option Nat)} {gd g m1 m2 m1' m2' kb nb c : Nat} {L L' : Lg} {K N : Nat → Option ByteArray}
theorem KW.step (h : KW w0 w b gd g m1 m2 L kb nb c K N) (hb : Below w.heap.size w w') : KW w0 w' b gd g m1 m2 L kb nb c K N :=
  ⟨h.p.below hb, h.low, bel_step h.bel hb h.bel.size, h.mK.below hb, h.mN.below hb, h.offk, h.offn⟩
theorem KW.turn (h : KW w0 w b gd g m1 m2 L kb nb c K N) (hp : LR w' b' gd g m1' m2' L'.rw) (ht : Turn (b ++ lb g m1 m2) (b' ++ lb g m1' m2') w w') : KW w0 w' b' gd g m1' m2' L' kb nb c K N :=
  ⟨hp, ht.low h.low h.bel.size, ht.bel h.bel h.low h.bel.size, h.mK.turn ht h.offk, h.mN.turn ht h.offn, ht.not h.mK.lt h.offk, ht.not h.mN.lt h.offn⟩
theorem KW.ofMaps (h : KW w0 w b gd g m1 m2 L kb nb c K N) {v : Value} {e : Ending} (hp : MapsPost w b gd g m1 m2 L'.rw v e w') : KPost w0 gd g L' kb nb c K N v e w' := by
  obtain ⟨he, b', m1', m2', h1, h2⟩ := hp
  exact ⟨he, b', m1', m2', h.turn h1 h2⟩
theorem KW.mono (h : KW w0 w b gd g m1 m2 L kb nb c K N) {d : Nat} (hd : c ≤ d) : KW w0 w b gd g m1 m2 L kb nb d K N :=
  ⟨h.p, h.low, h.bel, h.mK.mono hd, h.mN.mono hd, h.offk, h.offn⟩
/-- what is there now is told by another map, made anew -/
theorem KW.newN (h : KW w0 w b gd g m1 m2 L kb nb c K N) {nb' : Nat} {N' : Nat → Option ByteArray} (hm : MS w' nb' (c + 1) (lift N')) (hl : w.heap.size ≤ nb') (hb : Below w.heap.size w w') : KW w0 w' b gd g m1 m2 L kb nb' (c + 1) K N' :=
  ⟨h.p.below hb, h.low, bel_step h.bel hb h.bel.size, (h.mK.below hb).mono (Nat.le_succ _), hm, h.offk, fun h2 => by have := h.p.lt h2; omega⟩
theorem KW.keepNow (h : KW w0 w b gd g m1 m2 L kb nb c K N) : KW w0 w b gd g m1 m2 L nb nb c N N := ⟨h.p, h.low, h.bel, h.mN, h.mN, h.offn, h.offn⟩
theorem KW.backNow (h : KW w0 w b gd g m1 m2 L kb nb c K N) : KW w0 w b gd g m1 m2 L kb kb c K K := ⟨h.p, h.low, h.bel, h.mK, h.mK, h.offk, h.offk⟩
theorem kw_Append (h : KW w0 w b gd g m1 m2 L kb nb c K N) (ok : L.ok) (hfit : Fit L.D 1) (n : Int) (t : ByteArray) :
    Calls Try.prog 17 #[.pointer (some ⟨g, 0, none⟩), .int .i64 n, .string t] w (KPost w0 gd g (L.append n t) kb nb c K N (.int .i64 (L.appendE n t))) := by
  obtain ⟨e1, e2⟩ := rw_app ok n t
  refine (wal_Append b gd g m1 m2 L.rw n t w h.p hfit (show L.fs.length ≤ _ by have := ok.len; omega)).mono fun e w' hp => ?_
  rw [← e1, ← e2] at hp
  exact h.ofMaps hp.maps
theorem kw_Commit (h : KW w0 w b gd g m1 m2 L kb nb c K N) (ok : L.ok) (hfit : Fit L.D 4) (n : Int) (t : ByteArray) (p : Int) :
    Calls Try.prog 19 #[.pointer (some ⟨g, 0, none⟩), .int .i64 n, .string t, .int .i64 p] w (KPost w0 gd g (L.commit n t p) kb nb c K N (.int .i64 (L.commitE n t p))) := by
  obtain ⟨e1, e2⟩ := rw_commit ok n t p
  refine (wal_Commit b gd g m1 m2 L.rw n t p w h.p hfit ok.slot ok.number (show L.fs.length ≤ _ by have := ok.len; omega)).mono fun e w' hp => ?_
  rw [← e1, ← e2] at hp
  exact h.ofMaps hp
theorem kw_Back (h : KW w0 w b gd g m1 m2 L kb nb c K N) (ok : L.ok) :
    Calls Try.prog 20 #[.pointer (some ⟨g, 0, none⟩)] w (KPost w0 gd g L.back kb nb c K N (.tuple #[])) := by
  refine (wal_Back b gd g m1 m2 L.rw w h.p (show L.kept ≤ _ by have := ok.len; have := ok.kept; omega)).mono fun e w' hp => ?_
  rw [← rw_back ok] at hp
  exact h.ofMaps hp
theorem kw_Checkpoint (h : KW w0 w b gd g m1 m2 L kb nb c K N) (ok : L.ok) (hfit : Fit L.D 70000) (hd : L.D.down = false) :
    Calls Try.prog 21 #[.pointer (some ⟨g, 0, none⟩)] w (KPost w0 gd g L.checkpoint.1 kb nb c K N (.int .i64 L.checkpoint.2)) := by
  obtain ⟨e1, e2⟩ := rw_checkpoint ok hd
  refine (wal_Checkpoint b gd g m1 m2 L.rw w h.p hfit ok.slot ok.number (show L.pages ≤ _ by have := ok.pages; omega) (fun x => by show lastAt L.fs x ≤ _; have := lastAt_le L.fs x; have := ok.len; omega)).mono fun e w' hp => ?_
  rw [← e1, ← e2] at hp
  exact h.ofMaps hp
theorem kw_with (h : KW w0 w b gd g m1 m2 L kb nb c K N) (hc : c ≤ 100000) (n : Nat) (hn : n ≤ 1000) (s : ByteArray) (hs : s.size ≤ maxLen) :
    Calls Try.prog 18 #[.map (some nb), .int .i64 n, .string s] w (fun e w' => ∃ nb', e = .returned (.map (some nb')) ∧ KW w0 w' b gd g m1 m2 L kb nb' (c + 1) K (withP N n s)) :=
  (keep_with nb c (lift N) n s w hc h.mN (wfI (by omega) (by omega)) hs).mono fun e w' ⟨nb', he, hm, hl, hb⟩ => ⟨nb', he, h.newN (by rw [← lift_with]; exact hm) hl hb⟩
end
theorem go_down {D : Dk} (h : ¬ D.stops) : D.down = false := by
  cases hd : D.down with
  | false => rfl
  | true => exact absurd (.inl hd) h
theorem change_up {D : Dk} {c : Ch} (h : ¬ D.stops) : (D.change c).down = false := by
  unfold Dk.change Dk.turn
  rw [if_neg h, if_neg h]
  exact go_down (D := D) h
theorem sync_up {D : Dk} {f : Nat} (hf : f < 2) (h : ¬ D.stops) : (D.sync f).down = false := by
  unfold Dk.sync
  rw [if_pos (by omega), if_neg h]
  show D.turn.down = false
  unfold Dk.turn
  rw [if_neg h]
  exact go_down (D := D) h
theorem tell_live {L : Lg} {f p : Nat} (h : L.tellE f p = 0) : (L.tell f p).D.down = false := by
  unfold Lg.tellE at h
  by_cases h1 : L.D.stops
  · rw [if_pos h1] at h; cases h
  · rw [if_neg h1] at h
    have h2 := (turnE_zero _).1 h
    unfold Lg.tell
    rw [if_neg h1, if_neg h2]
    exact sync_up (f := 1) (by omega) h2
theorem append_up {L : Lg} (h : L.ok) (hlen : L.fs.length ≤ 1000) {n : Nat} (hn : n < 6) {t : ByteArray} (ht : t.size = 1024) (he : L.appendE n t = 0) : (L.append n t).D.down = false := by
  obtain ⟨e1, e2⟩ := append_eq h hlen hn ht
  rw [e1] at he
  rw [e2]
  exact change_up ((turnE_zero _).1 he)
theorem commit_up {L : Lg} {n : Int} {t : ByteArray} (he : L.commitE n t 6 = 0) : (L.commit n t 6).D.down = false := by
  unfold Lg.commitE at he
  unfold Lg.commit
  rw [if_pos (by decide)] at he ⊢
  by_cases h1 : L.appendE n t = 0
  · rw [if_pos h1] at he ⊢
    by_cases h2 : (L.append n t).D.stops
    · rw [if_pos h2] at he; cases he
    · rw [if_neg h2] at he ⊢
      exact tell_live he
  · rw [if_neg h1] at he; exact absurd he h1
theorem check3_up {L : Lg} {D : Dk} (he : (L.check3 D).2 = 0) : (L.check3 D).1.D.down = false := by
  unfold Lg.check3 at he ⊢
  by_cases h1 : D.cutE 0 (1024 * L.pages : Nat) ≠ 0
  · rw [if_pos h1] at he; exact absurd he h1
  · rw [if_neg h1] at he ⊢
    by_cases h2 : (D.cutD 0 (1024 * L.pages : Nat)).stops
    · rw [if_pos h2] at he; cases he
    · rw [if_neg h2] at he ⊢
      dsimp only at he ⊢
      by_cases h3 : ({ L with D := (D.cutD 0 (1024 * L.pages : Nat)).sync 0 } : Lg).tellE 0 L.pages = 0
      · rw [if_pos h3] at he ⊢
        exact tell_live h3
      · rw [if_neg h3] at he
        exact absurd he h3
theorem check3_no {L : Lg} {D : Dk} : (L.check3 D).2 ≠ 11 := fun he => by
  unfold Lg.check3 at he
  by_cases h1 : D.cutE 0 (1024 * L.pages : Nat) ≠ 0
  · rw [if_pos h1] at he
    dsimp only at he
    unfold Dk.cutE at he
    split at he
    · rcases turnE_two D with h | h
      · rw [h] at he; cases he
      · rw [h] at he; cases he
    · cases he
  · rw [if_neg h1] at he
    by_cases h2 : (D.cutD 0 (1024 * L.pages : Nat)).stops
    · rw [if_pos h2] at he; cases he
    · rw [if_neg h2] at he
      dsimp only at he
      rcases tellE_two ({ L with D := (D.cutD 0 (1024 * L.pages : Nat)).sync 0 } : Lg) 0 L.pages with h | h
      · rw [if_pos h] at he; cases he
      · rw [if_neg (by rw [h]; decide)] at he
        dsimp only at he
        rw [h] at he; cases he
theorem check_up {L : Lg} (ok : L.ok) (h6 : L.kept ≠ 0 → L.pages = 6) (hd : L.D.down = false) (he : L.checkpoint.2 = 0 ∨ L.checkpoint.2 = 11) : L.checkpoint.1.D.down = false := by
  unfold Lg.checkpoint at he ⊢
  by_cases h1 : L.fs.length ≠ L.kept
  · rw [if_pos h1]; exact hd
  · rw [if_neg h1] at he ⊢
    by_cases h2 : L.kept = 0
    · rw [if_pos h2]; exact hd
    · rw [if_neg h2] at he ⊢
      by_cases h3 : (L.puts L.pages 0 L.D).2 ≠ 0
      · rw [if_pos h3] at he
        have e6 := h6 h2
        have := puts_two ok 6 0 L.D (by omega)
        rw [← e6] at this
        dsimp only at he
        rcases this with h4 | h4
        · exact absurd h4 h3
        · rw [h4] at he
          exact absurd he (by decide)
      · rw [if_neg h3] at he ⊢
        rcases he with he | he
        · exact check3_up he
        · exact absurd he check3_no
/-- what a disk tells behind a crash -/
def Tot (D : Dk) (K M : Nat → Option ByteArray) : Prop := ∀ keep, TellsL (D.crash keep).l0 (D.crash keep).l1 K ∨ TellsL (D.crash keep).l0 (D.crash keep).l1 M
theorem Inv.tot {L : Lg} {K N : Nat → Option ByteArray} (h : Inv L K N) : Tot L.D K K := fun keep => .inl (safe_tells h.safe h.kept keep)

end Go.Proofs.Ytjihboddejaelaa
