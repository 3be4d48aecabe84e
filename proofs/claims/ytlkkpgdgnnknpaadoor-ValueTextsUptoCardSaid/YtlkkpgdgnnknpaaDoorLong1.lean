/-
  digit, cut, above of the reference's long numbers; slices of whole numbers that read as a list.
-/
import Derived.Test.YtlkkpgdgnnknpaaDoorLong
import Derived.Test.YtlkkpgdgnnknpaaDoorAppend
import Derived.Test.YtlkkpgdgnnknpaaDoorRows
import Derived.Deep.AppendLies
import Derived.WalkSpells
import Derived.WalkLawsBesides
import Derived.BigQuiet
import Derived.Outline
import Derived.LoopTactic
import Derived.Deep.DeepCutAuto
namespace Go.Proofs.YtlkkpgdgnnknpaaDoor
open Go.RowKit
set_option linter.unusedVariables false
set_option linter.unusedSimpArgs false
open Go.BigFrame

theorem infoInt : (Tryd.prog.info? 3).map (fun i => (i.zero, i.size, i.bytes)) = some (some (.int .i64 0), 1, 8) := by kernel_rfl

def ints (l : List Int) : List Value := l.map (Value.int .i64)
/-- the slice value '.slice A n c' reads as these whole numbers -/
def IS (w : World) (A : Option Addr) (n : Nat) (l : List Int) : Prop :=
  l.length = n ∧ (0 < n → ∃ b off, A = some ⟨b, off, none⟩ ∧ b < w.heap.size ∧ ∀ i v, l[i]? = some v → w.cell? ⟨b, off + i, none⟩ = some (.int .i64 v))
section
variable {w w' : World} {A : Option Addr} {n : Nat} {l : List Int}
theorem IS.nil (w : World) (A : Option Addr) : IS w A 0 [] := ⟨rfl, fun h => absurd h (by omega)⟩
theorem IS.keep (h : IS w A n l) (hb : Below w.heap.size w w') : IS w' A n l :=
  ⟨h.1, fun hn => by
    obtain ⟨b, off, hA, hl, hc⟩ := h.2 hn
    exact ⟨b, off, hA, Nat.lt_of_lt_of_le hl hb.size, fun i v hv => (hb.cell (p := ⟨b, off + i, none⟩) hl).trans (hc i v hv)⟩⟩
theorem IS.take {k : Nat} (h : IS w A n l) (hk : k ≤ n) : IS w A k (l.take k) :=
  ⟨by rw [List.length_take, h.1]; omega, fun hn => by
    obtain ⟨b, off, hA, hl, hc⟩ := h.2 (by omega)
    exact ⟨b, off, hA, hl, fun i v hv => hc i v (by
      rw [List.getElem?_take] at hv
      split at hv
      · exact hv
      · cases hv)⟩⟩
theorem ints_get (l : List Int) (j : Nat) : (ints l)[j]? = (l[j]?).map (Value.int .i64) := by simp [ints]
theorem ints_one : ∀ u ∈ ints l, u.oneCell' = true := fun u hu => by
  simp only [ints, List.mem_map] at hu
  obtain ⟨v, _, rfl⟩ := hu; rfl
theorem IS.src {c : Nat} (h : IS w A n l) {e' tx : TypeId} {P : Program} (hk : P.underlying tx = some (.slice e')) : Src P 1 tx (.slice A n c) n (ints l) w := by
  rcases Nat.eq_zero_or_pos n with rfl | hn
  · have hv : l = [] := List.eq_nil_of_length_eq_zero h.1
    subst hv
    cases A with
    | none => exact Src.ofNil w hk c
    | some a => exact Src.ofSlice w hk a 0 c [] rfl (fun j u hu => by simp at hu) (fun u hu => by simp at hu)
  · obtain ⟨b, off, rfl, hb, hc⟩ := h.2 hn
    exact Src.ofSlice w hk _ n c _ (by simp [ints, h.1]) (fun j u hu => by
      have hadd : (⟨b, off, none⟩ : Addr).add j = ⟨b, off + j, none⟩ := by unfold Addr.add; split <;> simp_all
      rw [hadd]
      rw [ints_get] at hu
      obtain ⟨v, hv, rfl⟩ := Option.map_eq_some_iff.1 hu
      exact hc j v hv) ints_one
theorem IS.of_own {base : Nat} {e : TypeId} {v : Value} (h : w.ownsRow base e 1 v n (ints l)) : ∃ A c, v = .slice A n c ∧ n ≤ c ∧ IS w A n l := by
  have hl : l.length = n := by have := h.1; simp [ints] at this; exact this
  rcases h.2 with ⟨rfl, h0⟩ | ⟨g, cap, cur, rfl, hb, hgg, hnc, _⟩
  · subst h0
    exact ⟨none, 0, rfl, Nat.le_refl _, hl, fun h => absurd h (by omega)⟩
  · refine ⟨_, _, rfl, hnc, hl, fun _ => ⟨g, 0, rfl, (Array.getElem?_eq_some_iff.1 hgg).1, fun i u hu => ?_⟩⟩
    have := h.cells (g := g) rfl i (.int .i64 u) (by rw [ints_get, hu]; rfl)
    have hadd : (⟨g, 0, none⟩ : Addr).add i = ⟨g, 0 + i, none⟩ := by unfold Addr.add; split <;> simp_all
    rw [hadd] at this; exact this
end
theorem below_grown {B : Nat} {w w' : World} {e : TypeId} {size : Nat} {v : Value} {n : Nat} {xs : List Value} {W : World} (h : Below B W w) (hown : w.ownsRow B e size v n xs) (hg : w.grownBy w' v.ownBlock) (hB : B ≤ w.heap.size) : Below B W w' :=
  h.grown hg hB (fun k hk => (hown.lt k hk).1)

set_option maxHeartbeats 400000 in
theorem ref_digit (A : Option Addr) (n c : Nat) (l : List Int) (i : Nat) (w : World) (h : IS w A n l) (_hi : i ≤ 9223372036854775807) (_hn : n ≤ 9223372036854775807) :
    Calls Tryd.prog 102 #[.slice A n c, .int .i64 i] w fun e w' => e = .returned (.int .i64 (l.getD i 0)) ∧ w = w' := by
  by_cases h1 : i < n
  · obtain ⟨b, off, rfl, hb, hc⟩ := h.2 (by omega)
    have hl : i < l.length := by rw [h.1]; exact h1
    have c0 := hc i l[i] (by simp [hl])
    have E := Lib.hid (show l[i] = l.getD i 0 by simp [hl])
    clear hc h
    go_enter Tryd.func102, Tryd.ntmps102
    go_wp2_with fail
    go_ret
    exact ⟨ret_int E.out, rfl⟩
  · have E := Lib.hid (show (0 : Int) = l.getD i 0 by
      rw [List.getD_eq_getElem?_getD, List.getElem?_eq_none (by rw [h.1]; omega)]; rfl)
    clear h
    go_enter Tryd.func102, Tryd.ntmps102
    go_wp2_with fail
    go_ret
    exact ⟨ret_int E.out, rfl⟩

theorem cut_zero {l : List Int} {k : Nat} (hk : k < l.length) (h : l[k] = 0) : cutD (l.take (k + 1)) = cutD (l.take k) := by
  rw [List.take_succ_eq_append_getElem hk, h, cutD_snoc_zero]
theorem cut_stop {l : List Int} {k : Nat} (hk : k < l.length) (h : l[k] ≠ 0) : cutD (l.take (k + 1)) = l.take (k + 1) := by
  rw [List.take_succ_eq_append_getElem hk, cutD_snoc h]
def CutPost (w : World) (A : Option Addr) (n c : Nat) (l : List Int) (e : Ending) (w' : World) : Prop := ∃ k : Nat, e = .returned (.slice A k c) ∧ k ≤ n ∧ cutD l = l.take k ∧ w = w'
set_option maxHeartbeats 400000 in
theorem ref_cut (A : Option Addr) (n c : Nat) (l : List Int) (w : World) (h : IS w A n l) (hn : n ≤ 9223372036854775807) (hc0 : n ≤ c) (hc1 : c ≤ 9223372036854775807) :
    Calls Tryd.prog 103 #[.slice A n c] w (CutPost w A n c l) := by
  have T : cutD l = cutD (l.take n) := by rw [← h.1, List.take_length]
  go_enter Tryd.func103, Tryd.ntmps103
  go_wp2_with fail
  go_loop [0] (fun v0 => ∃ k : Nat, k ≤ n ∧ v0 = .slice A k c ∧ cutD l = cutD (l.take k)) (fun v0 => match v0 with | .slice _ k _ => k | _ => 0)
  case atStart => exact ⟨n, Nat.le_refl _, rfl, T⟩
  case round =>
    clear T
    obtain ⟨k, hk, rfl, hd⟩ := hrel
    have HD := Lib.hid hd; clear hd
    cases k with
    | zero =>
      go_wp2_with fail
      go_ret
      exact ⟨0, rfl, Nat.zero_le _, by rw [HD.out]; rfl, rfl⟩
    | succ j =>
      obtain ⟨b, off, rfl, hb, hc⟩ := h.2 (by omega)
      have hl : j < l.length := by rw [h.1]; omega
      have c0 := hc j l[j] (by simp [hl])
      clear hc
      have e1 : ((j + 1 : Nat) : Int) = (j : Int) + 1 := by omega
      by_cases h0 : l[j] = 0
      · have g0 : (l[j] == 0) = true := by rw [h0]; rfl
        have Z := Lib.hid (cut_zero hl h0); clear h0
        go_wp2_with fail
        go_round
        case rel => exact ⟨j, by omega, rfl, by rw [HD.out, Z.out]⟩
        case measure => simp
      · have g0 : (l[j] == 0) = false := beq_eq_false_iff_ne.2 h0
        have Z := Lib.hid (cut_stop hl h0); clear h0
        go_wp2_with fail
        go_ret
        exact ⟨j + 1, rfl, hk, by rw [HD.out, Z.out], rfl⟩

set_option maxHeartbeats 1600000 in
theorem ref_above (A A' : Option Addr) (n n' c c' : Nat) (l l' : List Int) (w : World) (h : IS w A n l) (h' : IS w A' n' l') (_hn : n ≤ 9223372036854775807) (_hn' : n' ≤ 9223372036854775807) :
    Calls Tryd.prog 84 #[.slice A n c, .slice A' n' c'] w fun e w' => e = .returned (.bool (aboveD l l')) ∧ Below w.heap.size w w' := by
  by_cases hn : n = n'
  · subst hn
    have E := Lib.hid (show aboveD l l' = aboveGo l l' n by simp [aboveD, h.1, h'.1])
    have g0 : ((n : Int) != (n : Int)) = false := by simp
    go_enter Tryd.func84, Tryd.ntmps84
    go_wp2_with fail
    go_loopw [5] (fun v5 wr => ∃ (k : Nat) (z : Int), z = k - 1 ∧ k ≤ n ∧ v5 = .int .i64 z ∧ aboveGo l l' n = aboveGo l l' k ∧ Below w.heap.size w wr) (fun v5 _ => (intOf v5 + 1).toNat)
    case atStart => exact ⟨n, _, rfl, Nat.le_refl _, rfl, rfl, Below.refl _ _⟩
    case round =>
      obtain ⟨k, z, hz, hk, rfl, hd, hbel⟩ := hrel
      have HD := Lib.hid hd; clear hd
      cases k with
      | zero =>
        obtain rfl : z = -1 := by omega
        clear hz
        go_wp2_with fail
        go_ret
        exact ⟨ret_bool (by rw [E.out, HD.out]; rfl), hbel⟩
      | succ j =>
        obtain rfl : z = (j : Int) := by omega
        clear hz
        obtain ⟨b, off, rfl, hb, hc⟩ := h.2 (by omega)
        obtain ⟨b', off', rfl, hb', hc'⟩ := h'.2 (by omega)
        have hl : j < l.length := by rw [h.1]; omega
        have hl' : j < l'.length := by rw [h'.1]; omega
        have c0 := hc j l[j] (by simp [hl])
        have c0' := hc' j l'[j] (by simp [hl'])
        have G := Lib.hid (show aboveGo l l' (j + 1) = if l[j] ≠ l'[j] then decide (l'[j] < l[j]) else aboveGo l l' j by simp [aboveGo, hl, hl'])
        clear hc hc'
        obtain ⟨wc, wf⟩ := bcell hbel
        have z1 : b < wr.heap.size := by have := hbel.size; omega
        have z2 : b' < wr.heap.size := by have := hbel.size; omega
        have i1 : (j : Int) < (n : Int) := by omega
        by_cases h0 : l[j] = l'[j]
        · have g1 : (l[j] != l'[j]) = false := by rw [h0]; simp
          have X := Lib.hid h0; clear h0
          go_wp2_with fail
          refine wp_region_cls (wr) (by kernel_rfl) (by kernel_rfl) (Cls.start _) ?_
          repeat
            first
              | go_big_quiet_skip
              | (go_big_quiet_want; (first | go_big_quiet_op | go_simp); first | go_big_quiet_on | (apply Exists.intro; refine ⟨fun w' hw' => ?_, ?_⟩; (· (first | (with_reducible exact rfl) | (fail) | (obtain ⟨hc, hf⟩ := hw'.facts; go_simp; first | done | (with_reducible exact rfl) | (with_reducible exact ⟨rfl, rfl⟩)))); go_big_quiet_on))
          refine wpQuiet_nil ?_
          intro wq hq
          go_wp2_with fail
          go_roundw
          case rel => exact ⟨j, _, rfl, by omega, rfl, by rw [HD.out, G.out, if_neg (by simpa using X.out)], bel_step hbel hq hbel.size⟩
          case measure => simp [intOf]
        · have g1 : (l[j] != l'[j]) = true := bne_iff_ne.2 h0
          have X := Lib.hid h0; clear h0
          go_wp2_with fail
          refine wp_region_cls (wr) (by kernel_rfl) (by kernel_rfl) (Cls.start _) ?_
          repeat
            first
              | go_big_quiet_skip
              | (go_big_quiet_want; (first | go_big_quiet_op | go_simp); first | go_big_quiet_on | (apply Exists.intro; refine ⟨fun w' hw' => ?_, ?_⟩; (· (first | (with_reducible exact rfl) | (fail) | (obtain ⟨hc, hf⟩ := hw'.facts; go_simp; first | done | (with_reducible exact rfl) | (with_reducible exact ⟨rfl, rfl⟩)))); go_big_quiet_on))
          refine wpQuiet_nil ?_
          intro wq hq
          have hb2 := bel_step hbel hq hbel.size
          obtain ⟨wc, wf⟩ := bcell hb2
          have z1 : b < wq.heap.size := by have := hb2.size; omega
          have z2 : b' < wq.heap.size := by have := hb2.size; omega
          go_wp2_with fail
          refine wp_region_cls (wq) (by kernel_rfl) (by kernel_rfl) (Cls.start _) ?_
          repeat
            first
              | go_big_quiet_skip
              | (go_big_quiet_want; (first | go_big_quiet_op | go_simp); first | go_big_quiet_on | (apply Exists.intro; refine ⟨fun w' hw' => ?_, ?_⟩; (· (first | (with_reducible exact rfl) | (fail) | (obtain ⟨hc, hf⟩ := hw'.facts; go_simp; first | done | (with_reducible exact rfl) | (with_reducible exact ⟨rfl, rfl⟩)))); go_big_quiet_on))
          refine wpQuiet_nil ?_
          intro wq hq
          go_wp2_with fail
          go_ret
          exact ⟨ret_bool (by rw [E.out, HD.out, G.out, if_pos X.out]), bel_step hb2 hq hb2.size⟩
  · have g0 : ((n : Int) != (n' : Int)) = true := by rw [bne_iff_ne]; omega
    have E := Lib.hid (show decide (n' < n) = aboveD l l' by unfold aboveD; rw [if_pos (by rw [h.1, h'.1]; exact hn), h.1, h'.1])
    clear hn h h'
    go_enter Tryd.func84, Tryd.ntmps84
    go_wp2_with fail
    go_ret
    exact ⟨ret_bool E.out, Below.refl _ _⟩

end Go.Proofs.YtlkkpgdgnnknpaaDoor
