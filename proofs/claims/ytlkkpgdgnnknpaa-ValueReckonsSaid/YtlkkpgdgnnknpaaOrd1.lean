/-
  The reference's order: sign, less, Order, OrderRows: the same answers as package value's.
-/
import Derived.Test.YtlkkpgdgnnknpaaRows0
namespace Go.Proofs.Ytlkkpgdgnnknpaa
open Go.RowKit

def signV (b a : Bool) : Int := if b then -1 else if a then 1 else 0
def lessS (a b : ByteArray) : Bool := Op.bytesLess a.toList b.toList

set_option maxHeartbeats 400000 in
theorem ref_sign (a b : Bool) (w : World) : Calls Try.prog 57 #[.bool a, .bool b] w fun e w' => e = .returned (.int .i64 (signV a b)) ∧ w = w' := by
  cases a <;> cases b
  all_goals
    go_enter Try.func57, Try.ntmps57
    go_wp2
    go_ret
    exact ⟨rfl, rfl⟩

theorem signL : ∀ (a b : List UInt8), signV (Op.bytesLess a b) (Op.bytesLess b a) = Lib.compareBytes a b
  | [], [] => rfl
  | [], _ :: _ => rfl
  | _ :: _, [] => rfl
  | x :: a, y :: b => by
    have ih := signL a b
    simp only [Op.bytesLess, Lib.compareBytes]
    by_cases h : x < y
    · have h' : ¬ y < x := fun h2 => absurd (UInt8.lt_trans h h2) (UInt8.lt_irrefl x)
      simp [h, signV]
    · by_cases h2 : y < x
      · have h3 : ¬ x = y := fun e => by subst e; exact h h2
        simp [h, h2, h3, signV]
      · have h3 : x = y := UInt8.le_antisymm (UInt8.not_lt.1 h2) (UInt8.not_lt.1 h)
        subst h3
        simp only [h, if_false, ← ih]
        simp
theorem signS (a b : ByteArray) : signV (lessS a b) (lessS b a) = ordS a b := by
  unfold lessS ordS
  rw [Lib.toList_data, Lib.toList_data]
  exact signL _ _
theorem signI (a b : Int) : signV (decide (a < b)) (decide (b < a)) = ordI a b := by
  unfold signV ordI
  simp

def lessV (k n : Int) (s : ByteArray) (k' n' : Int) (s' : ByteArray) : Bool :=
  if cleanK k ≠ cleanK k' then decide (cleanK k < cleanK k') else if cleanK k = 3 then lessS (cleanS k s) (cleanS k' s') else decide (cleanN k n < cleanN k' n')

theorem signV_less (k n : Int) (s : ByteArray) (k' n' : Int) (s' : ByteArray) : signV (lessV k n s k' n' s') (lessV k' n' s' k n s) = orderV k n s k' n' s' := by
  unfold lessV orderV
  by_cases e1 : cleanK k = cleanK k'
  · by_cases e2 : cleanK k = 3
    · simp only [e1, ne_eq, not_true_eq_false, if_false]
      rw [if_pos (by rw [← e1]; exact e2), if_pos (by rw [← e1]; exact e2), if_pos (by rw [← e1]; exact e2)]
      exact signS _ _
    · simp only [e1, ne_eq, not_true_eq_false, if_false]
      rw [if_neg (by rw [← e1]; exact e2), if_neg (by rw [← e1]; exact e2), if_neg (by rw [← e1]; exact e2)]
      exact signI _ _
  · rw [if_pos e1, if_pos (Ne.symm e1), if_pos e1]
    exact signI _ _

set_option maxHeartbeats 1600000 in
theorem ref_less (k n : Int) (s : ByteArray) (k' n' : Int) (s' : ByteArray) (w : World) :
    Calls Try.prog 60 #[.agg #[.int .i64 k, .int .i64 n, .string s], .agg #[.int .i64 k', .int .i64 n', .string s']] w fun e w' => e = .returned (.bool (lessV k n s k' n' s')) ∧ Below w.heap.size w w' := by
  go_enter Try.func60, Try.ntmps60
  go_upto_region 1 with fail
  go_cut [2, 3, 4] (fun s2 s3 s4 wx => s2 = .pointer (some ⟨w.heap.size, 0, none⟩) ∧ s3 = .pointer (some ⟨w.heap.size + 1, 0, none⟩) ∧ s4 = .bool false ∧ Below w.heap.size w wx ∧
    Has wx w.heap.size 29 #[.int .i64 (cleanK k), .int .i64 (cleanN k n), .string (cleanS k s)] ∧ Has wx (w.heap.size + 1) 29 #[.int .i64 (cleanK k'), .int .i64 (cleanN k' n'), .string (cleanS k' s')])
  case first =>
    go_region_with (go_at_call 25; refine (relstoreref_Clean _ _ _ _).mono ?_; rintro e w1 ⟨rfl, hb⟩; obtain ⟨hc, hf⟩ := bcell hb; have hz := hb.size; (try simp at hz); have hz0 : w.heap.size < w1.heap.size := (by omega); have hz1 : w.heap.size + 1 < w1.heap.size := (by omega))
    all_goals
      go_wp2_with fail
      go_meet
      exact ⟨rfl, rfl, rfl, two_stores (two_boxes (by first | (exact bel_step (by assumption) (by assumption) (by omega)) | (repeat (first | exact Below.refl _ _ | (refine Below.setCell ?_ (by first | omega | (simp <;> omega)) _) | refine Below.drew ?_ | (refine Below.alloc ?_ (by first | omega | (simp <;> omega)) _) | (refine bel_step ?_ (by assumption) (by first | omega | (simp <;> omega)))))))⟩
  case rest =>
    obtain ⟨rfl, rfl, rfl, hbel, hA, hB⟩ := hcut
    obtain ⟨c0, c1, c2⟩ := hA.cells3
    obtain ⟨c3, c4, c5⟩ := hB.cells3
    by_cases e1 : cleanK k = cleanK k'
    · have g1 : (cleanK k != cleanK k') = false := by rw [e1]; simp
      by_cases e2 : cleanK k = 3
      · have g2 : (cleanK k == 3) = true := by rw [e2]; rfl
        have H : Op.bytesLess (cleanS k s).toList (cleanS k' s').toList = lessV k n s k' n' s' := by simp [lessV, lessS, ← e1, e2]
        have HH := Lib.hid H; clear H e1 e2
        go_wp2
        go_ret
        exact ⟨ret_bool HH.out, hbel⟩
      · have g2 : (cleanK k == 3) = false := beq_eq_false_iff_ne.2 e2
        have H : decide (cleanN k n < cleanN k' n') = lessV k n s k' n' s' := by simp [lessV, ← e1, e2]
        have HH := Lib.hid H; clear H e1 e2
        go_wp2
        go_ret
        exact ⟨ret_bool HH.out, hbel⟩
    · have g1 : (cleanK k != cleanK k') = true := bne_iff_ne.2 e1
      have H : decide (cleanK k < cleanK k') = lessV k n s k' n' s' := by simp [lessV, e1]
      have HH := Lib.hid H; clear H e1
      go_wp2
      go_ret
      exact ⟨ret_bool HH.out, hbel⟩

set_option maxHeartbeats 1600000 in
theorem ref_Order (k n : Int) (s : ByteArray) (k' n' : Int) (s' : ByteArray) (w : World) :
    Calls Try.prog 22 #[.agg #[.int .i64 k, .int .i64 n, .string s], .agg #[.int .i64 k', .int .i64 n', .string s']] w fun e w' => e = .returned (.int .i64 (orderV k n s k' n' s')) ∧ Below w.heap.size w w' := by
  go_enter Try.func22, Try.ntmps22
  go_wp2_with fail
  refine wp_region_cls ((w.alloc (.cells #[.int .i64 k, .int .i64 n, .string s] 29)).alloc (.cells #[.int .i64 k', .int .i64 n', .string s'] 29)) (by kernel_rfl) (by kernel_rfl) (Cls.start _) ?_
  repeat
    refine wpQuiet_step (fun K hK => ?_)
    go_simp
    first
      | (refine hK _ ?_; clear hK K)
      | (apply Exists.intro; refine ⟨fun w' hw' => ?_, hK _ ?_⟩; (· (first | (with_reducible exact rfl) | (first | (go_at_call 60; refine (ref_less _ _ _ _ _ _ _).mono ?_; rintro e w1 ⟨rfl, hb⟩; exact ⟨rfl, Cls.step hw' hb⟩) | (go_at_call 57; refine (ref_sign _ _ _).mono ?_; rintro e w1 ⟨rfl, rfl⟩; exact ⟨rfl, hw'⟩)) | (obtain ⟨hc, hf⟩ := hw'.facts; go_simp; first | done | (with_reducible exact rfl) | (with_reducible exact ⟨rfl, rfl⟩)))); clear hK K)
  refine wpQuiet_nil ?_
  intro wq hq
  have hb := bel_step (((Below.refl _ w).alloc (Nat.le_refl _) (.cells #[.int .i64 k, .int .i64 n, .string s] 29)).alloc (by simp) (.cells #[.int .i64 k', .int .i64 n', .string s'] 29)) hq (by simp; omega)
  go_wp2_with fail
  go_ret
  exact ⟨ret_int (signV_less _ _ _ _ _ _), hb⟩

set_option maxHeartbeats 1600000 in
theorem ref_OrderRows (A A' : Option Addr) (n n' c c' : Nat) (vs vs' : List Val) (w : World) (h : VS w A n vs) (h' : VS w A' n' vs') (hn : n ≤ 9223372036854775807) (hn' : n' ≤ 9223372036854775807) :
    Calls Try.prog 19 #[.slice A n c, .slice A' n' c'] w fun e w' => e = .returned (.int .i64 (rowsV vs vs')) ∧ Below w.heap.size w w' := by
  go_enter Try.func19, Try.ntmps19
  go_wp2_with fail
  go_loopw [5, 6, 9] (fun _ _ i wr => ∃ k : Nat, k ≤ n ∧ k ≤ n' ∧ i = .int .i64 k ∧ rowsV vs vs' = rowsV (vs.drop k) (vs'.drop k) ∧ Below w.heap.size w wr) (fun _ _ i _ => n - (intOf i).toNat)
  case atStart => exact ⟨0, Nat.zero_le _, Nat.zero_le _, rfl, rfl, Below.refl _ _⟩
  case round =>
    obtain ⟨k, hk, hk', rfl, hrel, hbel⟩ := hrel
    have HR := Lib.hid hrel; clear hrel
    by_cases h1 : k < n
    · by_cases h2 : k < n'
      · obtain ⟨b, off, rfl, hbl, hc⟩ := h.2 (by omega)
        obtain ⟨b', off', rfl, hbl', hc'⟩ := h'.2 (by omega)
        have hl : k < vs.length := by rw [h.1]; exact h1
        have hl' : k < vs'.length := by rw [h'.1]; exact h2
        obtain ⟨a0, a1, a2⟩ := hc k vs[k] (by simp [hl])
        obtain ⟨b0, b1, b2⟩ := hc' k vs'[k] (by simp [hl'])
        have HD := Lib.hid (rowsV_drop hl hl')
        obtain ⟨wc, wf⟩ := bcell hbel
        have z1 : b < wr.heap.size := by have := hbel.size; omega
        have z2 : b' < wr.heap.size := by have := hbel.size; omega
        have z3 : (k == n') = false := by simp; omega
        clear hc hc'
        go_wp2_with fail
        refine wp_region_cls (wr) (by kernel_rfl) (by kernel_rfl) (Cls.start _) ?_
        repeat
          refine wpQuiet_step (fun K hK => ?_)
          go_simp
          first
            | (refine hK _ ?_; clear hK K)
            | (apply Exists.intro; refine ⟨fun w' hw' => ?_, hK _ ?_⟩; (· (first | (with_reducible exact rfl) | ((go_at_call 22; refine (ref_Order _ _ _ _ _ _ _).mono ?_; rintro e w1 ⟨rfl, hb⟩; exact ⟨rfl, Cls.step hw' hb⟩)) | (obtain ⟨hc, hf⟩ := hw'.facts; go_simp; first | done | (with_reducible exact rfl) | (with_reducible exact ⟨rfl, rfl⟩)))); clear hK K)
        refine wpQuiet_nil ?_
        intro wq hq
        have hb2 := bel_step hbel hq hbel.size
        by_cases e : orderVV vs[k] vs'[k] = 0
        · have e1 : (orderV vs[k].k vs[k].n vs[k].s vs'[k].k vs'[k].n vs'[k].s != 0) = false := by simpa [orderVV] using e
          have E := Lib.hid e; clear e
          go_wp2_with fail
          go_roundw
          case rel => exact ⟨k + 1, by omega, by omega, by go_num, by rw [HR.out, HD.out, if_neg (by simpa using E.out)], hb2⟩
          case measure => simp [intOf]; omega
        · have e1 : (orderV vs[k].k vs[k].n vs[k].s vs'[k].k vs'[k].n vs'[k].s != 0) = true := by simpa [orderVV] using e
          have E := Lib.hid e; clear e
          go_wp2_with fail
          go_ret
          exact ⟨ret_int (by rw [HR.out, HD.out, if_pos E.out]; rfl), hb2⟩
      · have HE := Lib.hid (rowsV_end h.1 h'.1 hk hk' (by omega))
        have e0 : ordI n n' = 1 := (ordI_gt (by omega)).symm
        have E0 := Lib.hid e0; clear e0
        have z3 : (k == n') = true := by simp; omega
        go_wp2_with fail
        go_ret
        exact ⟨ret_int (by rw [HR.out, HE.out, E0.out]), hbel⟩
    · have HE := Lib.hid (rowsV_end h.1 h'.1 hk hk' (by omega))
      have e0 : signV (decide (n < n')) false = ordI n n' := by
        by_cases g : n < n'
        · rw [← ordI_lt (by omega)]; simp [signV, g]
        · rw [← ordI_eq (by omega) (by omega)]; simp [signV, g]
      have E0 := Lib.hid e0; clear e0
      go_wp2_with (go_at_call 57; refine (ref_sign _ _ _).mono ?_; rintro e w1 ⟨rfl, rfl⟩)
      go_ret
      exact ⟨ret_int (by rw [HR.out, HE.out, E0.out]), hbel⟩

end Go.Proofs.Ytlkkpgdgnnknpaa
