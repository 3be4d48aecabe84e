/-
  sameValue, sameValues, lent, back: the law's own helpers on lists of values.
-/
import Derived.Test.YtlkkpgdgnnknpaaDoorRows0
import Derived.Test.YtlkkpgdgnnknpaaDoorAppend
import Derived.Deep.AppendLies
namespace Go.Proofs.YtlkkpgdgnnknpaaDoor
open Go.RowKit

theorem infoValue : (Tryd.prog.info? 38).map (fun i => (i.zero, i.size, i.bytes)) = some (some (.agg #[.int .i64 0, .int .i64 0, .string ⟨#[]⟩]), 3, 32) := by kernel_rfl

theorem zeroCellsValue : (Value.agg #[.int .i64 0, .int .i64 0, .string ⟨#[]⟩]).cells.size = 3 := by kernel_rfl

def Val.cells (v : Val) : List Value := [.int .i64 v.k, .int .i64 v.n, .string v.s]
def cellsV (vs : List Val) : List Value := vs.flatMap Val.cells
theorem cellsV_nil : cellsV [] = [] := rfl
theorem cellsV_append (a b : List Val) : cellsV (a ++ b) = cellsV a ++ cellsV b := by simp [cellsV]
theorem cellsV_length : ∀ vs : List Val, (cellsV vs).length = vs.length * 3
  | [] => rfl
  | v :: vs => by
    have := cellsV_length vs
    simp only [cellsV, List.flatMap_cons, List.length_append, List.length_cons] at this ⊢
    rw [this]; simp only [Val.cells, List.length_cons, List.length_nil]; omega
theorem cellsV_get : ∀ (vs : List Val) (j : Nat), (cellsV vs)[j]? = vs[j / 3]?.bind fun v => v.cells[j % 3]?
  | [], j => by simp [cellsV]
  | v :: vs, j => by
    have hs : cellsV (v :: vs) = v.cells ++ cellsV vs := by simp [cellsV]
    rw [hs]
    by_cases h : j < 3
    · rw [List.getElem?_append_left (by simpa [Val.cells] using h), Nat.div_eq_of_lt h, Nat.mod_eq_of_lt h]
      simp
    · rw [List.getElem?_append_right (by simp [Val.cells]; omega), show v.cells.length = 3 from rfl, cellsV_get vs (j - 3)]
      have e1 : j / 3 = (j - 3) / 3 + 1 := by omega
      have e2 : j % 3 = (j - 3) % 3 := by omega
      rw [e1, e2]
      simp
theorem cellsV_one : ∀ (vs : List Val), ∀ u ∈ cellsV vs, u.oneCell' = true := fun vs u hu => by
  simp only [cellsV, List.mem_flatMap, Val.cells, List.mem_cons, List.not_mem_nil, or_false] at hu
  obtain ⟨v, _, rfl | rfl | rfl⟩ := hu <;> rfl

section
variable {w w' : World} {A : Option Addr} {n : Nat} {vs : List Val}
theorem VS.len (h : VS w A n vs) : vs.length = n := h.1
theorem VS.flat (h : VS w A n vs) (hn : 0 < n) : ∃ b off, A = some ⟨b, off, none⟩ ∧ b < w.heap.size ∧ ∀ j u, (cellsV vs)[j]? = some u → w.cell? ⟨b, off + j, none⟩ = some u := by
  obtain ⟨b, off, hA, hb, hc⟩ := h.2 hn
  refine ⟨b, off, hA, hb, fun j u hu => ?_⟩
  rw [cellsV_get] at hu
  obtain ⟨v, hv, hu2⟩ := Option.bind_eq_some_iff.1 hu
  clear hu
  obtain ⟨c0, c1, c2⟩ := hc _ v hv
  have hj : j = j / 3 * 3 + j % 3 := by omega
  have hr : j % 3 < 3 := Nat.mod_lt _ (by omega)
  generalize j / 3 = q at *
  generalize j % 3 = r at *
  subst hj
  match r, hr, hu2 with
  | 0, _, hu3 => simp [Val.cells] at hu3; subst hu3; simpa [Nat.add_assoc] using c0
  | 1, _, hu3 => simp [Val.cells] at hu3; subst hu3; simpa [Nat.add_assoc] using c1
  | 2, _, hu3 => simp [Val.cells] at hu3; subst hu3; simpa [Nat.add_assoc] using c2
theorem VS.of_flat {b off : Nat} (hl : vs.length = n) (hb : b < w.heap.size) (h : ∀ j u, (cellsV vs)[j]? = some u → w.cell? ⟨b, off + j, none⟩ = some u) : VS w (some ⟨b, off, none⟩) n vs := by
  refine ⟨hl, fun _ => ⟨b, off, rfl, hb, fun i v hv => ?_⟩⟩
  have g : ∀ r u, r < 3 → v.cells[r]? = some u → w.cell? ⟨b, off + (i * 3 + r), none⟩ = some u := fun r u hr hu => h _ _ (by
    rw [cellsV_get, show (i * 3 + r) / 3 = i by omega, show (i * 3 + r) % 3 = r by omega, hv]; exact hu)
  refine ⟨g 0 _ (by omega) rfl, ?_, ?_⟩
  · have := g 1 _ (by omega) rfl; simpa [Nat.add_assoc] using this
  · have := g 2 _ (by omega) rfl; simpa [Nat.add_assoc] using this
theorem VS.keep (h : VS w A n vs) (hb : Below w.heap.size w w') : VS w' A n vs :=
  ⟨h.1, fun hn => by
    obtain ⟨b, off, hA, hl, hc⟩ := h.2 hn
    refine ⟨b, off, hA, Nat.lt_of_lt_of_le hl hb.size, fun i v hv => ?_⟩
    obtain ⟨c0, c1, c2⟩ := hc i v hv
    exact ⟨(hb.cell hl).trans c0, (hb.cell hl).trans c1, (hb.cell hl).trans c2⟩⟩
theorem VS.take {k : Nat} (h : VS w A n vs) (hk : k ≤ n) : VS w A k (vs.take k) :=
  ⟨by rw [List.length_take, h.1]; omega, fun hn => by
    obtain ⟨b, off, hA, hl, hc⟩ := h.2 (by omega)
    exact ⟨b, off, hA, hl, fun i v hv => hc i v (by
      rw [List.getElem?_take] at hv
      split at hv
      · exact hv
      · cases hv)⟩⟩
theorem VS.src {c : Nat} (h : VS w A n vs) {e' tx : TypeId} {P : Program} (hk : P.underlying tx = some (.slice e')) : Src P 3 tx (.slice A n c) n (cellsV vs) w := by
  rcases Nat.eq_zero_or_pos n with rfl | hn
  · have hv : vs = [] := List.eq_nil_of_length_eq_zero h.1
    subst hv
    cases A with
    | none => exact Src.ofNil w hk c
    | some a => exact Src.ofSlice w hk a 0 c [] rfl (fun j u hu => by simp at hu) (fun u hu => by simp at hu)
  · obtain ⟨b, off, rfl, hb, hc⟩ := h.flat hn
    exact Src.ofSlice w hk _ n c _ (by rw [cellsV_length, h.1]) (fun j u hu => by
      have hadd : (⟨b, off, none⟩ : Addr).add j = ⟨b, off + j, none⟩ := by unfold Addr.add; split <;> simp_all
      rw [hadd]; exact hc j u hu) (cellsV_one vs)
theorem VS.of_own {base : Nat} {e : TypeId} {g cap : Nat} (h : w.ownsRow base e 3 (.slice (some ⟨g, 0, none⟩) n cap) n (cellsV vs)) (hg : g < w.heap.size) : VS w (some ⟨g, 0, none⟩) n vs := by
  refine VS.of_flat ?_ hg fun j u hu => ?_
  · have := h.1; rw [cellsV_length] at this; omega
  · have := h.cells (g := g) rfl j u hu
    have hadd : (⟨g, 0, none⟩ : Addr).add j = ⟨g, 0 + j, none⟩ := by unfold Addr.add; split <;> simp_all
    rw [hadd] at this; exact this
end

set_option maxHeartbeats 400000 in
theorem law_sameValue (k n : Int) (s : ByteArray) (w : World) :
    Calls Tryd.prog 22 #[.agg #[.int .i64 k, .int .i64 n, .string s], .agg #[.int .i64 k, .int .i64 n, .string s]] w fun e w' => e = .returned (.bool true) ∧ Below w.heap.size w w' := by
  go_enter Tryd.func22, Tryd.ntmps22
  go_wp2
  go_ret
  exact ⟨ret_bool (by simp), (((Below.refl _ w).alloc (Nat.le_refl _) (.cells #[.int .i64 k, .int .i64 n, .string s] 38)).alloc (by simp) (.cells #[.int .i64 k, .int .i64 n, .string s] 38))⟩

set_option maxHeartbeats 1600000 in
theorem law_sameValues (A A' : Option Addr) (n c c' : Nat) (vs : List Val) (w : World) (h : VS w A n vs) (h' : VS w A' n vs) (hn : n ≤ 9223372036854775807) :
    Calls Tryd.prog 12 #[.slice A n c, .slice A' n c'] w fun e w' => e = .returned (.bool true) ∧ Below w.heap.size w w' := by
  go_enter Tryd.func12, Tryd.ntmps12
  go_wp2_with fail
  go_loopw [5, 13] (fun _ i wr => ∃ k : Nat, k ≤ n ∧ i = .int .i64 k ∧ Below w.heap.size w wr) (fun _ i _ => n - (intOf i).toNat)
  case atStart => exact ⟨0, Nat.zero_le _, rfl, Below.refl _ _⟩
  case round =>
    obtain ⟨k, hk, rfl, hbel⟩ := hrel
    by_cases h1 : k < n
    · obtain ⟨b, off, rfl, hbl, hc⟩ := h.2 (by omega)
      obtain ⟨b', off', rfl, hbl', hc'⟩ := h'.2 (by omega)
      have hl : k < vs.length := by rw [h.1]; exact h1
      obtain ⟨a0, a1, a2⟩ := hc k vs[k] (by simp [hl])
      obtain ⟨b0, b1, b2⟩ := hc' k vs[k] (by simp [hl])
      obtain ⟨wc, wf⟩ := bcell hbel
      have z1 : b < wr.heap.size := by have := hbel.size; omega
      have z2 : b' < wr.heap.size := by have := hbel.size; omega
      clear hc hc'
      go_wp2_with fail
      refine wp_region_cls (wr) (by kernel_rfl) (by kernel_rfl) (Cls.start _) ?_
      repeat
        refine wpQuiet_step (fun K hK => ?_)
        go_simp
        first
          | (refine hK _ ?_; clear hK K)
          | (apply Exists.intro; refine ⟨fun w' hw' => ?_, hK _ ?_⟩; (· (first | (with_reducible exact rfl) | ((go_at_call 22; refine (law_sameValue _ _ _ _).mono ?_; rintro e w1 ⟨rfl, hb⟩; exact ⟨rfl, Cls.step hw' hb⟩)) | (obtain ⟨hc, hf⟩ := hw'.facts; go_simp; first | done | (with_reducible exact rfl) | (with_reducible exact ⟨rfl, rfl⟩)))); clear hK K)
      refine wpQuiet_nil ?_
      intro wq hq
      have hb2 := bel_step hbel hq hbel.size
      go_wp2_with fail
      go_roundw
      case rel => exact ⟨k + 1, by omega, by go_num, hb2⟩
      case measure => simp [intOf]; omega
    · go_wp2
      go_ret
      exact ⟨rfl, hbel⟩

def marks : List Val := [⟨9, 7, ⟨#[]⟩⟩, ⟨9, 8, ⟨#[]⟩⟩]
/-- what 'lent' hands back -/
def LentPost (w : World) (n : Nat) (vs : List Val) (e : Ending) (w' : World) : Prop :=
  ∃ g cap, e = .returned (.slice (some ⟨g, 0, none⟩) (n + 2) cap) ∧ n + 2 ≤ cap ∧ VS w' (some ⟨g, 0, none⟩) (n + 2) (vs ++ marks) ∧ Below w.heap.size w w'

theorem lent_end {w w1 w2 : World} {n : Nat} {vs : List Val} {v1 v2 : Value} {e : TypeId} (hown : w2.ownsRow w.heap.size e 3 v2 (n + 2) (cellsV vs ++ cellsV marks)) (hl : vs.length = n) (h1 : w.grownBy w1 none)
    (hv1 : v1.ownBlock = none ∨ v1.ownBlock = some w.heap.size) (h2 : (w1.alloc (.cells (cellsV marks).toArray e)).grownBy w2 v1.ownBlock) : LentPost w n vs (.returned v2) w2 := by
  obtain ⟨g, cap, rfl, hg, hlt⟩ := hown.form (by omega)
  have hcap : n + 2 ≤ cap := by
    rcases hown.2 with ⟨h, _⟩ | ⟨g', cap', cur, h, _, _, hnc, _⟩
    · cases h
    · cases h; exact hnc
  rw [← cellsV_append] at hown
  refine ⟨g, cap, rfl, hcap, VS.of_own hown hlt, ?_⟩
  have b1 : Below w.heap.size w w1 := (Below.refl _ _).grown h1 (Nat.le_refl _) (fun k h => by cases h)
  refine (b1.alloc b1.size _).grown h2 (by have := b1.size; simp; omega) fun k hk => ?_
  rcases hv1 with h | h
  · rw [h] at hk; cases hk
  · rw [h] at hk; cases hk; exact Nat.le_refl _

set_option maxHeartbeats 1600000 in
theorem law_lent (A : Option Addr) (n c : Nat) (vs : List Val) (w : World) (h : VS w A n vs) (hn : (n + 2) * 32 ≤ 140737488355328) :
    Calls Tryd.prog 8 #[.slice A n c] w (LentPost w n vs) := by
  obtain ⟨i0, hi, hz0, hz1, hz2⟩ := info_parts infoValue
  have b1 : ∀ {w1 : World}, w.grownBy w1 (Value.ownBlock (.slice none 0 0)) → Below w.heap.size w w1 := fun hg => (Below.refl _ _).grown hg (Nat.le_refl _) (fun k h => by cases h)
  have g1 : 0 + n ≤ maxLen := by unfold maxLen; omega
  have g2 : (0 + n) * 32 ≤ 140737488355328 := by omega
  have g3 : 0 + n + 2 ≤ maxLen := by unfold maxLen; omega
  have g4 : (0 + n + 2) * 32 ≤ 140737488355328 := by rw [Nat.zero_add]; exact hn
  have G1 := Lib.hid g1; have G2 := Lib.hid g2; have G3 := Lib.hid g3; have G4 := Lib.hid g4
  clear g1 g2 g3 g4
  go_enter Tryd.func8, Tryd.ntmps8
  go_wp2_with (first
    | (at_builtin; refine wpList_append_src _ rfl (.const (.slice none 0 0)) (.tmp 3) 22 22 rfl w.heap.size 38 i0 _ 3 32 Tryd.underlying22 hi hz0 hz1 hz2 zeroCellsValue (by decide) (.slice none 0 0) 0 [] rfl (World.ownsRow_nil _ _ _ _) (.slice A n c) n (cellsV vs) rfl (h.src Tryd.underlying22) G1.out G2.out (Nat.le_refl _) ?_; intro v1 w1 hown1 hg1 _ hat1)
    | (at_builtin; refine wpList_append_src _ rfl (.tmp 4) (.tmp 7) 22 22 rfl w.heap.size 38 i0 _ 3 32 Tryd.underlying22 hi hz0 hz1 hz2 zeroCellsValue (by decide) v1 (0 + n) ([] ++ cellsV vs) rfl (hown1.alloc _) (.slice (some ⟨w1.heap.size, 0, none⟩) 2 2) 2 (cellsV marks) rfl (Src.ofSlice _ Tryd.underlying22 ⟨w1.heap.size, 0, none⟩ 2 2 (cellsV marks) rfl (World.news_of_block (heap_alloc_new w1 _)) (cellsV_one marks)) G3.out G4.out (Nat.le_trans (b1 hg1).size (by simp)) ?_; intro v2 w2 hown2 hg2 _ _))
  simp only [Nat.zero_add, List.nil_append] at hown2
  go_wp2
  go_ret
  exact lent_end hown2 h.1 hg1 (by simpa [Value.ownBlock] using hat1) hg2

theorem marks_at {vs : List Val} {n : Nat} (h : vs.length = n) : (vs ++ marks)[n]? = some ⟨9, 7, ⟨#[]⟩⟩ ∧ (vs ++ marks)[n + 1]? = some ⟨9, 8, ⟨#[]⟩⟩ ∧ (vs ++ marks).take n = vs := by
  subst h
  refine ⟨by simp [marks], ?_, by simp⟩
  rw [List.getElem?_append_right (by omega)]
  simp [marks]

set_option maxHeartbeats 1600000 in
theorem law_back (A : Option Addr) (g cap n c : Nat) (vs : List Val) (w : World) (hx : VS w (some ⟨g, 0, none⟩) (n + 2) (vs ++ marks)) (hcap : n + 2 ≤ cap) (h : VS w A n vs) (hn : n + 2 ≤ 9223372036854775807) :
    Calls Tryd.prog 11 #[.slice (some ⟨g, 0, none⟩) (n + 2 : Nat) cap, .slice A n c] w fun e w' => e = .returned (.bool true) ∧ Below w.heap.size w w' := by
  obtain ⟨m0, m1, m2⟩ := marks_at h.1
  have ht := hx.take (k := n) (by omega)
  rw [m2] at ht
  obtain ⟨b, off, hA, hb0, hc⟩ := hx.2 (by omega)
  obtain ⟨rfl, rfl⟩ : g = b ∧ 0 = off := by injection hA with e; injection e with e1 e2; exact ⟨e1, e2⟩
  obtain ⟨a0, a1, a2⟩ := hc n _ m0
  obtain ⟨b0, b1, b2⟩ := hc (n + 1) _ m1
  clear hc m0 m1 m2 hA
  simp only [Nat.zero_add] at a0 a1 a2 b0 b1 b2
  have i1 : (n : Int) < ((n + 2 : Nat) : Int) := by omega
  have i2 : (n : Int) + 1 < ((n + 2 : Nat) : Int) := by omega
  have i3 : (n : Int) ≤ (cap : Int) := by omega
  go_enter Tryd.func11, Tryd.ntmps11
  go_wp2_with (go_at_call 12; refine (law_sameValues _ _ _ _ _ vs _ ht h (by omega)).mono ?_; rintro e w1 ⟨rfl, hb⟩; obtain ⟨hc, hf⟩ := bcell hb)
  go_ret
  exact ⟨rfl, hb⟩

end Go.Proofs.YtlkkpgdgnnknpaaDoor
