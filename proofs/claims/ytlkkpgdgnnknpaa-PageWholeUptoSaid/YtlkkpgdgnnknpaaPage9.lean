/-
  sameTexts, lentTexts, backTexts: the law's helpers on lists of texts; both Opens by one contract.
-/
import Derived.Test.YtlkkpgdgnnknpaaPage8
namespace Go.Proofs.Ytlkkpgdgnnknpaa
open Go.RowKit
open Go.BigFrame
set_option linter.unusedVariables false

theorem strs_len (l : List ByteArray) : (strs l).length = l.length := by simp [strs]
theorem strs_one : ∀ l : List ByteArray, ∀ u ∈ strs l, u.oneCell' = true := fun l u hu => by
  simp only [strs, List.mem_map] at hu
  obtain ⟨v, _, rfl⟩ := hu; rfl
theorem strs_get {l : List ByteArray} {j : Nat} {u : Value} (h : (strs l)[j]? = some u) : ∃ v, l[j]? = some v ∧ u = .string v := by
  simp only [strs, List.getElem?_map] at h
  obtain ⟨v, hv, rfl⟩ := Option.map_eq_some_iff.1 h
  exact ⟨v, hv, rfl⟩
section
variable {w w' : World} {A : Option Addr} {n : Nat} {l : List ByteArray}
theorem SS.take {k : Nat} (h : SS w A n l) (hk : k ≤ n) : SS w A k (l.take k) :=
  ⟨by rw [List.length_take, h.1]; omega, fun hn => by
    obtain ⟨b, off, hA, hl, hc⟩ := h.2 (by omega)
    exact ⟨b, off, hA, hl, fun i v hv => hc i v (by
      rw [List.getElem?_take] at hv
      split at hv
      · exact hv
      · cases hv)⟩⟩
theorem SS.src {c : Nat} (h : SS w A n l) {e' tx : TypeId} {P : Program} (hk : P.underlying tx = some (.slice e')) : Src P 1 tx (.slice A n c) n (strs l) w := by
  rcases Nat.eq_zero_or_pos n with rfl | hn
  · have hv : l = [] := List.eq_nil_of_length_eq_zero h.1
    subst hv
    cases A with
    | none => exact Src.ofNil w hk c
    | some a => exact Src.ofSlice w hk a 0 c [] rfl (fun j u hu => by simp at hu) (fun u hu => by simp at hu)
  · obtain ⟨b, off, rfl, hb, hc⟩ := h.2 hn
    exact Src.ofSlice w hk _ n c _ (by rw [strs_len, h.1, Nat.mul_one]) (fun j u hu => by
      obtain ⟨v, hv, rfl⟩ := strs_get hu
      rw [addr_add]; exact hc j v hv) (strs_one l)
end

set_option maxHeartbeats 1600000 in
theorem law_sameTexts (A A' : Option Addr) (n c c' : Nat) (l : List ByteArray) (w : World) (h : SS w A n l) (h' : SS w A' n l) (hn : n ≤ 9223372036854775807) :
    Calls Try.prog 33 #[.slice A n c, .slice A' n c'] w fun e w' => e = .returned (.bool true) ∧ Below w.heap.size w w' := by
  go_enter Try.func33, Try.ntmps33
  go_wp2_with fail
  go_loopw [5, 13] (fun _ i wr => ∃ k : Nat, k ≤ n ∧ i = .int .i64 k ∧ Below w.heap.size w wr) (fun _ i _ => n - (intOf i).toNat)
  case atStart => exact ⟨0, Nat.zero_le _, rfl, Below.refl _ _⟩
  case round =>
    obtain ⟨k, hk, rfl, hbel⟩ := hrel
    by_cases h1 : k < n
    · obtain ⟨b, off, rfl, hbl, hc⟩ := h.2 (by omega)
      obtain ⟨b', off', rfl, hbl', hc'⟩ := h'.2 (by omega)
      have hl : k < l.length := by rw [h.1]; exact h1
      have a0 := hc k l[k] (by simp [hl])
      have b0 := hc' k l[k] (by simp [hl])
      obtain ⟨wc, wf⟩ := bcell hbel
      have z1 : b < wr.heap.size := by have := hbel.size; omega
      have z2 : b' < wr.heap.size := by have := hbel.size; omega
      clear hc hc'
      go_wp2_with fail
      refine wp_region_cls (wr) (by kernel_rfl) (by kernel_rfl) (Cls.start _) ?_
      repeat
        refine wpQuiet_step (fun K hK => ?_)
        go_simp
        first
          | (refine hK _ ?_; clear hK K)
          | (apply Exists.intro; refine ⟨fun w' hw' => ?_, hK _ ?_⟩; (· (first | (with_reducible exact rfl) | (fail) | (obtain ⟨hc, hf⟩ := hw'.facts; go_simp; first | done | (with_reducible exact rfl) | (with_reducible exact ⟨rfl, rfl⟩)))); clear hK K)
      refine wpQuiet_nil ?_
      intro wq hq
      have hb2 := bel_step hbel hq hbel.size
      go_wp2_with fail
      go_roundw
      case rel => exact ⟨k + 1, by omega, by go_num, hb2⟩
      case measure => simp [intOf]; omega
    · go_wp2
      go_ret
      exact ⟨rfl, hbel⟩

theorem zeroString1 : (Value.string ⟨#[]⟩).cells.size = 1 := by kernel_rfl
def marksT : List ByteArray := [⟨#[109, 97, 114, 107, 32, 55]⟩, ⟨#[109, 97, 114, 107, 32, 56]⟩]
theorem strs_append (a b : List ByteArray) : strs (a ++ b) = strs a ++ strs b := by simp [strs]
/-- what 'lentTexts' hands back -/
def LentT (w : World) (n : Nat) (l : List ByteArray) (e : Ending) (w' : World) : Prop :=
  ∃ g cap, e = .returned (.slice (some ⟨g, 0, none⟩) (n + 2) cap) ∧ n + 2 ≤ cap ∧ SS w' (some ⟨g, 0, none⟩) (n + 2) (l ++ marksT) ∧ Below w.heap.size w w'
theorem lentT_end {w w1 w2 : World} {n : Nat} {l : List ByteArray} {v1 v2 : Value} {e : TypeId} (hown : w2.ownsRow w.heap.size e 1 v2 (n + 2) (strs l ++ strs marksT)) (hl : l.length = n) (h1 : w.grownBy w1 none)
    (hv1 : v1.ownBlock = none ∨ v1.ownBlock = some w.heap.size) (h2 : (w1.alloc (.cells (strs marksT).toArray e)).grownBy w2 v1.ownBlock) : LentT w n l (.returned v2) w2 := by
  obtain ⟨g, cap, rfl, hg, hlt⟩ := hown.form (by omega)
  have hcap : n + 2 ≤ cap := by
    rcases hown.2 with ⟨h, _⟩ | ⟨g', cap', cur, h, _, _, hnc, _⟩
    · cases h
    · cases h; exact hnc
  rw [← strs_append] at hown
  refine ⟨g, cap, rfl, hcap, SS.of_own hown, ?_⟩
  have b1 : Below w.heap.size w w1 := (Below.refl _ _).grown h1 (Nat.le_refl _) (fun k h => by cases h)
  refine (b1.alloc b1.size _).grown h2 (by have := b1.size; simp; omega) fun k hk => ?_
  rcases hv1 with h | h
  · rw [h] at hk; cases hk
  · rw [h] at hk; cases hk; exact Nat.le_refl _

set_option maxHeartbeats 1600000 in
theorem law_lentTexts (A : Option Addr) (n c : Nat) (l : List ByteArray) (w : World) (h : SS w A n l) (hn : n ≤ 4194304) :
    Calls Try.prog 26 #[.slice A n c] w (LentT w n l) := by
  obtain ⟨i0, hi, hz0, hz1, hz2⟩ := info_parts infoString
  have b1 : ∀ {w1 : World}, w.grownBy w1 (Value.ownBlock (.slice none 0 0)) → Below w.heap.size w w1 := fun hg => (Below.refl _ _).grown hg (Nat.le_refl _) (fun k h => by cases h)
  have G1 := Lib.hid (show 0 + n ≤ maxLen by unfold maxLen; omega)
  have G2 := Lib.hid (show (0 + n) * 16 ≤ 140737488355328 by omega)
  have G3 := Lib.hid (show 0 + n + 2 ≤ maxLen by unfold maxLen; omega)
  have G4 := Lib.hid (show (0 + n + 2) * 16 ≤ 140737488355328 by omega)
  go_enter Try.func26, Try.ntmps26
  go_wp2_with (first
    | (at_builtin; refine wpList_append_src _ rfl (.const (.slice none 0 0)) (.tmp 3) 38 38 rfl w.heap.size 9 i0 _ 1 16 Try.underlying38 hi hz0 hz1 hz2 zeroString1 (by decide) (.slice none 0 0) 0 [] rfl (World.ownsRow_nil _ _ _ _) (.slice A n c) n (strs l) rfl (h.src Try.underlying38) G1.out G2.out (Nat.le_refl _) ?_; intro v1 w1 hown1 hg1 _ hat1)
    | (at_builtin; refine wpList_append_src _ rfl (.tmp 4) (.tmp 5) 38 38 rfl w.heap.size 9 i0 _ 1 16 Try.underlying38 hi hz0 hz1 hz2 zeroString1 (by decide) v1 (0 + n) ([] ++ strs l) rfl (hown1.alloc _) (.slice (some ⟨w1.heap.size, 0, none⟩) 2 2) 2 (strs marksT) rfl (Src.ofSlice _ Try.underlying38 ⟨w1.heap.size, 0, none⟩ 2 2 (strs marksT) rfl (World.news_of_block (heap_alloc_new w1 _)) (strs_one marksT)) G3.out G4.out (Nat.le_trans (b1 hg1).size (by simp)) ?_; intro v2 w2 hown2 hg2 _ _))
  simp only [Nat.zero_add, List.nil_append] at hown2
  go_wp2
  go_ret
  exact lentT_end hown2 h.1 hg1 (by simpa [Value.ownBlock] using hat1) hg2

theorem marksT_at {l : List ByteArray} {n : Nat} (h : l.length = n) : (l ++ marksT)[n]? = some ⟨#[109, 97, 114, 107, 32, 55]⟩ ∧ (l ++ marksT)[n + 1]? = some ⟨#[109, 97, 114, 107, 32, 56]⟩ ∧ (l ++ marksT).take n = l := by
  subst h
  refine ⟨by simp [marksT], ?_, by simp⟩
  rw [List.getElem?_append_right (by omega)]
  simp [marksT]

set_option maxHeartbeats 1600000 in
theorem law_backTexts (A : Option Addr) (g cap n c : Nat) (l : List ByteArray) (w : World) (hx : SS w (some ⟨g, 0, none⟩) (n + 2) (l ++ marksT)) (hcap : n + 2 ≤ cap) (h : SS w A n l) (hn : n + 2 ≤ 9223372036854775807) :
    Calls Try.prog 29 #[.slice (some ⟨g, 0, none⟩) (n + 2 : Nat) cap, .slice A n c] w fun e w' => e = .returned (.bool true) ∧ Below w.heap.size w w' := by
  obtain ⟨m0, m1, m2⟩ := marksT_at h.1
  have ht := hx.take (k := n) (by omega)
  rw [m2] at ht
  obtain ⟨b, off, hA, hb0, hc⟩ := hx.2 (by omega)
  obtain ⟨rfl, rfl⟩ : g = b ∧ 0 = off := by injection hA with e; injection e with e1 e2; exact ⟨e1, e2⟩
  have a0 := hc n _ m0
  have b0 := hc (n + 1) _ m1
  clear hc m0 m1 m2 hA
  simp only [Nat.zero_add] at a0 b0
  have i1 : (n : Int) < ((n + 2 : Nat) : Int) := by omega
  have i2 : (n : Int) + 1 < ((n + 2 : Nat) : Int) := by omega
  have i3 : (n : Int) ≤ (cap : Int) := by omega
  go_enter Try.func29, Try.ntmps29
  go_wp2_with (go_at_call 33; refine (law_sameTexts _ _ _ _ _ l _ ht h (by omega)).mono ?_; rintro e w1 ⟨rfl, hb⟩; obtain ⟨hc, hf⟩ := bcell hb)
  go_ret
  exact ⟨rfl, hb⟩

/-- both Opens, told alike -/
def OpenAt (w : World) (k l x : Int) (n : Nat) (cs : List ByteArray) (e : Ending) (w' : World) : Prop :=
  ∃ A c, e = .returned (.tuple #[.agg #[.int .i64 k, .int .i64 l, .slice A n c], .int .i64 x]) ∧ SS w' A n cs ∧ Below w.heap.size w w'
theorem open_at (o : Option Pg) : ∃ (k l x : Int) (n : Nat) (cs : List ByteArray), cs.length = n ∧ (o = none → x = 4 ∧ n = 0) ∧ (∀ p, o = some p → k = p.1 ∧ l = p.2.1 ∧ cs = p.2.2 ∧ x = 0) ∧ ∀ w e w', OpenPost w o (.int .i64 4) e w' → OpenAt w k l x n cs e w' := by
  cases o with
  | none => exact ⟨0, 0, 4, 0, [], rfl, (fun _ => ⟨rfl, rfl⟩), (fun p h => by cases h), fun w e w' h => ⟨none, 0, h.1, ⟨rfl, fun h => absurd h (by omega)⟩, h.2⟩⟩
  | some p => exact ⟨p.1, p.2.1, 0, p.2.2.length, p.2.2, rfl, (fun h => by cases h), (fun q h => by cases h; exact ⟨rfl, rfl, rfl, rfl⟩), fun w e w' ⟨A, c, h1, h2, h3⟩ => ⟨A, c, h1, h2, h3⟩⟩
theorem opens_alike (s : ByteArray) (hs : s.size ≤ 1048576) : ∃ (k l x : Int) (n : Nat) (cs : List ByteArray), n ≤ 4194304 ∧
    (∀ w, Calls Try.prog 31 #[.string s] w (OpenAt w k l x n cs)) ∧ (∀ w, Calls Try.prog 32 #[.string s] w (OpenAt w k l x n cs)) := by
  obtain ⟨k, l, x, n, cs, hn, h1, h2, h3⟩ := open_at (openP s)
  refine ⟨k, l, x, n, cs, ?_, fun w => (page_Open s hs w).mono fun e w' h => h3 w e w' h, fun w => (ref_Open s hs w).mono fun e w' h => h3 w e w' (by rw [open_same]; exact h)⟩
  cases ho : openP s with
  | none => rw [(h1 ho).2]; omega
  | some p =>
    obtain ⟨_, _, hcs, _⟩ := h2 p ho
    have := cells_few (openP_valid.1 ho).2.2.2.1
    rw [← hcs, hn] at this
    omega

end Go.Proofs.Ytlkkpgdgnnknpaa
