/-
  Slices of values; Rows, OrderRows.
-/
import Derived.Test.YtlkkpgdgnnknpaaDoorOrd0
import Derived.Deep.Quiet
import Derived.BigQuiet
import Derived.Outline
namespace Go.Proofs.YtlkkpgdgnnknpaaDoor
open Go.RowKit
attribute [local go_sem ↓] Go.wp_at_zero Go.wp_at_succ

structure Val where
  k : Int
  n : Int
  s : ByteArray

/-- the slice value '.slice A n c' reads as these values -/
def VS (w : World) (A : Option Addr) (n : Nat) (vs : List Val) : Prop :=
  vs.length = n ∧ (0 < n → ∃ b off, A = some ⟨b, off, none⟩ ∧ b < w.heap.size ∧ ∀ i v, vs[i]? = some v →
    w.cell? ⟨b, off + i * 3, none⟩ = some (.int .i64 v.k) ∧ w.cell? ⟨b, off + i * 3 + 1, none⟩ = some (.int .i64 v.n) ∧ w.cell? ⟨b, off + i * 3 + 2, none⟩ = some (.string v.s))

def orderVV (a b : Val) : Int := orderV a.k a.n a.s b.k b.n b.s

def rowsV : List Val → List Val → Int
  | [], [] => 0
  | [], _ :: _ => -1
  | _ :: _, [] => 1
  | a :: l, b :: m => if orderVV a b ≠ 0 then orderVV a b else rowsV l m

theorem rowsV_drop {vs vs' : List Val} {k : Nat} (h : k < vs.length) (h' : k < vs'.length) :
    rowsV (vs.drop k) (vs'.drop k) = if orderVV vs[k] vs'[k] ≠ 0 then orderVV vs[k] vs'[k] else rowsV (vs.drop (k + 1)) (vs'.drop (k + 1)) := by
  rw [List.drop_eq_getElem_cons h, List.drop_eq_getElem_cons h', rowsV]
theorem rowsV_end {vs vs' : List Val} {k n n' : Nat} (h : vs.length = n) (h' : vs'.length = n') (hk : k ≤ n) (hk' : k ≤ n') (he : n ≤ k ∨ n' ≤ k) :
    rowsV (vs.drop k) (vs'.drop k) = ordI n n' := by
  have l1 : (vs.drop k).length = n - k := by rw [List.length_drop, h]
  have l2 : (vs'.drop k).length = n' - k := by rw [List.length_drop, h']
  match e1 : vs.drop k, e2 : vs'.drop k with
  | [], [] => rw [e1] at l1; rw [e2] at l2; simp at l1 l2; simp only [rowsV]; exact ordI_eq (by omega) (by omega)
  | [], _ :: _ => rw [e1] at l1; rw [e2] at l2; simp at l1 l2; simp only [rowsV]; exact ordI_lt (by omega)
  | _ :: _, [] => rw [e1] at l1; rw [e2] at l2; simp at l1 l2; simp only [rowsV]; exact ordI_gt (by omega)
  | _ :: _, _ :: _ => rw [e1] at l1; rw [e2] at l2; simp at l1 l2; omega

set_option maxHeartbeats 1600000 in
theorem value_Rows (A A' : Option Addr) (n n' c c' : Nat) (vs vs' : List Val) (w : World) (h : VS w A n vs) (h' : VS w A' n' vs') (hn : n ≤ 9223372036854775807) (hn' : n' ≤ 9223372036854775807) :
    Calls Tryd.prog 16 #[.slice A n c, .slice A' n' c'] w fun e w' => e = .returned (.int .i64 (rowsV vs vs')) ∧ Below w.heap.size w w' := by
  go_enter Tryd.func16, Tryd.ntmps16
  go_wp2_with fail
  go_loopw [5, 6] (fun i _ wr => ∃ k : Nat, k ≤ n ∧ k ≤ n' ∧ i = .int .i64 k ∧ rowsV vs vs' = rowsV (vs.drop k) (vs'.drop k) ∧ Below w.heap.size w wr) (fun i _ _ => n - (intOf i).toNat)
  case atStart => exact ⟨0, Nat.zero_le _, Nat.zero_le _, rfl, rfl, Below.refl _ _⟩
  case round =>
    obtain ⟨k, hk, hk', rfl, hrel, hbel⟩ := hrel
    have HR := Lib.hid hrel; clear hrel
    by_cases h1 : k < n
    · by_cases h2 : k < n'
      · obtain ⟨b, off, rfl, hbl, hc⟩ := h.2 (by omega)
        obtain ⟨b', off', rfl, hbl', hc'⟩ := h'.2 (by omega)
        have hl : k < vs.length := by rw [h.1]; exact h1
        have hl' : k < vs'.length := by rw [h'.1]; exact h2
        obtain ⟨a0, a1, a2⟩ := hc k vs[k] (by simp [hl])
        obtain ⟨b0, b1, b2⟩ := hc' k vs'[k] (by simp [hl'])
        have HD := Lib.hid (rowsV_drop hl hl')
        obtain ⟨wc, wf⟩ := bcell hbel
        have z1 : b < wr.heap.size := by have := hbel.size; omega
        have z2 : b' < wr.heap.size := by have := hbel.size; omega
        clear hc hc'
        go_wp2_with fail
        refine wp_region_cls (wr) (by kernel_rfl) (by kernel_rfl) (Cls.start _) ?_
        repeat
          refine wpQuiet_step (fun K hK => ?_)
          go_simp
          first
            | (refine hK _ ?_; clear hK K)
            | (apply Exists.intro; refine ⟨fun w' hw' => ?_, hK _ ?_⟩; (· (first | (with_reducible exact rfl) | ((go_at_call 17; refine (value_Order _ _ _ _ _ _ _).mono ?_; rintro e w1 ⟨rfl, hb⟩; exact ⟨rfl, Cls.step hw' hb⟩)) | (obtain ⟨hc, hf⟩ := hw'.facts; go_simp; first | done | (with_reducible exact rfl) | (with_reducible exact ⟨rfl, rfl⟩)))); clear hK K)
        refine wpQuiet_nil ?_
        intro wq hq
        have hb2 := bel_step hbel hq hbel.size
        by_cases e : orderVV vs[k] vs'[k] = 0
        · have e1 : (orderV vs[k].k vs[k].n vs[k].s vs'[k].k vs'[k].n vs'[k].s != 0) = false := by simpa [orderVV] using e
          have E := Lib.hid e; clear e
          go_wp2_with fail
          go_roundw
          case rel => exact ⟨k + 1, by omega, by omega, by go_num, by rw [HR.out, HD.out, if_neg (by simpa using E.out)], hb2⟩
          case measure => simp [intOf]; omega
        · have e1 : (orderV vs[k].k vs[k].n vs[k].s vs'[k].k vs'[k].n vs'[k].s != 0) = true := by simpa [orderVV] using e
          have E := Lib.hid e; clear e
          go_wp2_with fail
          go_ret
          exact ⟨ret_int (by rw [HR.out, HD.out, if_pos E.out]; rfl), hb2⟩
      · have HE := Lib.hid (rowsV_end h.1 h'.1 hk hk' (by omega))
        go_wp2_with (go_at_call 42; refine (cmp_int _ _ _).mono ?_; rintro e w1 ⟨rfl, rfl⟩)
        go_ret
        exact ⟨ret_int (by rw [HR.out, HE.out]), hbel⟩
    · have HE := Lib.hid (rowsV_end h.1 h'.1 hk hk' (by omega))
      go_wp2_with (go_at_call 42; refine (cmp_int _ _ _).mono ?_; rintro e w1 ⟨rfl, rfl⟩)
      go_ret
      exact ⟨ret_int (by rw [HR.out, HE.out]), hbel⟩

end Go.Proofs.YtlkkpgdgnnknpaaDoor
