/-
  joint of the reference's long numbers.
-/
import Derived.Test.YtlkkpgdgnnknpaaDoorLong1
namespace Go.Proofs.YtlkkpgdgnnknpaaDoor
open Go.RowKit
set_option linter.unusedVariables false
set_option linter.unusedSimpArgs false
open Go.BigFrame

/-- memory from block B on -/
def Fresh (B : Nat) (A : Option Addr) : Prop := ∀ a, A = some a → B ≤ a.block
/-- a new slice of whole numbers that reads as this list -/
def IntsPost (w : World) (l : List Int) (e : Ending) (w' : World) : Prop := ∃ A n c, e = .returned (.slice A n c) ∧ n ≤ c ∧ c ≤ 9223372036854775807 ∧ IS w' A n l ∧ Fresh w.heap.size A ∧ Below w.heap.size w w'
theorem own_fresh {w : World} {base : Nat} {e : TypeId} {size : Nat} {A : Option Addr} {c n : Nat} {xs : List Value} (h : w.ownsRow base e size (.slice A n c) n xs) : Fresh base A := by
  intro a ha
  rcases h.2 with ⟨h, h0⟩ | ⟨g, cap, cur, h, hb, _⟩
  · cases h; cases ha
  · cases h; cases ha; exact hb
theorem own_cap {w : World} {base : Nat} {e : TypeId} {v : Value} {n : Nat} {l : List Int} (h : w.ownsRow base e 1 v n (ints l)) : ∃ A c, v = .slice A n c ∧ n ≤ c ∧ c ≤ 9223372036854775807 ∧ IS w A n l := by
  obtain ⟨A, c, rfl, hnc, hi⟩ := IS.of_own h
  refine ⟨A, c, rfl, hnc, ?_, hi⟩
  rcases h.2 with ⟨h, h0⟩ | ⟨g, cap, cur, h, _, _, _, hcm, _⟩
  · cases h; omega
  · cases h; unfold maxLen at hcm; omega
theorem carry_of {x y c : Int} (h : y + 10000 * c = x) (h0 : 0 ≤ y) : x % 10000 = y % 10000 ∧ x / 10000 = c + y / 10000 := by omega

set_option maxRecDepth 100000 in
set_option maxHeartbeats 3200000 in
theorem ref_joint (A A' : Option Addr) (n n' c c' : Nat) (l l' : List Int) (t : Int) (w : World) (h : IS w A n l) (h' : IS w A' n' l') (ha : Digs l) (hb : Digs l') (t0 : -1 ≤ t) (t1 : t < 10000) (hN : (n + n' + 2) * 8 ≤ 140737488355328) :
    Calls Tryd.prog 83 #[.slice A n c, .slice A' n' c', .int .i64 t] w (IntsPost w (jointD l l' t)) := by
  obtain ⟨i0, hi, hz0, hz1, hz2⟩ := info_parts infoInt
  have u1 : n ≤ 9223372036854775807 := by omega
  have u2 : n' ≤ 9223372036854775807 := by omega
  have JN : jointN l l' = max n n' + 1 := by unfold jointN; rw [h.1, h'.1]
  have HN := Lib.hid hN; have HJ := Lib.hid JN
  have DG := Lib.hid (fun i => (jointGo_carry ha hb t0 t1 i))
  have XA := Lib.hid (fun i => ha.getD i); have XB := Lib.hid (fun i => hb.getD i)
  clear hN JN ha hb
  go_enter Tryd.func83, Tryd.ntmps83
  go_wp2_with fail
  go_loopw [7, 8, 9] (fun v7 v8 v9 wr => ∃ i : Nat, v9 = .int .i64 i ∧ i ≤ max n n' + 1 ∧ v8 = .int .i64 (jointGo l l' t i).2 ∧ wr.ownsRow w.heap.size 3 1 v7 i (ints (jointGo l l' t i).1) ∧ Below w.heap.size w wr) (fun _ _ v9 _ => max n n' + 1 - (intOf v9).toNat)
  case atStart => exact ⟨0, rfl, Nat.zero_le _, rfl, World.ownsRow_nil _ _ _ _, Below.refl _ _⟩
  case round =>
    obtain ⟨i, rfl, hi1, rfl, hown, hbel⟩ := hrel
    by_cases h1 : i < max n n' + 1
    · obtain ⟨cr0, cr1⟩ := DG.out i
      obtain ⟨x0, x1⟩ := XA.out i
      obtain ⟨y0, y1⟩ := XB.out i
      have hi2 : i ≤ 100000000000000 := by have := HN.out; omega
      have hi3 : i ≤ 9223372036854775807 := by omega
      have hA := h.keep hbel
      have hB := h'.keep hbel
      have DA := (fun w' (hw : Below wr.heap.size wr w') => ref_digit A n c l i w' (hA.keep hw) hi3 u1)
      have DB := (fun w' (hw : Below wr.heap.size wr w') => ref_digit A' n' c' l' i w' (hB.keep hw) hi3 u2)
      have EG : jointGo l l' t (i + 1) = ((jointGo l l' t i).1 ++ [(l.getD i 0 + t * l'.getD i 0 + (jointGo l l' t i).2) % 10000], (l.getD i 0 + t * l'.getD i 0 + (jointGo l l' t i).2) / 10000) := rfl
      have HO := Lib.hid hown
      have HB := Lib.hid hbel
      obtain ⟨x, hx⟩ : ∃ x, l.getD i 0 = x := ⟨_, rfl⟩
      obtain ⟨y, hy⟩ : ∃ y, l'.getD i 0 = y := ⟨_, rfl⟩
      simp only [hx, hy] at DA DB EG x0 x1 y0 y1
      obtain ⟨p0, p1⟩ := prod_bd t0 t1 ⟨y0, y1⟩
      have HEG := Lib.hid EG; have HDA := Lib.hid DA; have HDB := Lib.hid DB
      clear hA hB EG DA DB hx hy hbel hown
      obtain ⟨cr, hcr⟩ : ∃ cr, (jointGo l l' t i).2 = cr := ⟨_, rfl⟩
      rw [hcr] at cr0 cr1
      have HEG2 : Hid (jointGo l l' t (i + 1) = ((jointGo l l' t i).1 ++ [(x + t * y + cr) % 10000], (x + t * y + cr) / 10000)) := by
        have := HEG.out
        rw [hcr] at this
        exact this
      rw [hcr]
      clear hcr HEG
      have gg : (i + 1) * 8 ≤ 140737488355328 := by have := HN.out; omega
      have G1 := Lib.hid (show i + 1 ≤ maxLen by unfold maxLen; omega)
      have G2 := Lib.hid gg
      clear gg
      have hm : (n < n' ∧ i ≤ n') ∨ (¬ n < n' ∧ i ≤ n) := by omega
      obtain ⟨wo, rfl⟩ : ∃ wo : World, wo = wr := ⟨_, rfl⟩
      rcases hm with ⟨hm, hm'⟩ | ⟨hm, hm'⟩
      all_goals
        go_wp2_with (first | (go_at_call 102; (with_reducible refine (HDA.out _ (Below.refl _ _)).mono ?_); rintro e w1 ⟨rfl, rfl⟩) | (go_at_call 102; (with_reducible refine (HDB.out _ (Below.refl _ _)).mono ?_); rintro e w1 ⟨rfl, rfl⟩))
        go_loop [8, 10] (fun v8 v10 => ∃ cc z : Int, v8 = .int .i64 cc ∧ v10 = .int .i64 z ∧ ((cc = 0 ∧ z = x + t * y + cr) ∨ (cc = -1 ∧ z = x + t * y + cr + 10000 ∧ 0 ≤ z))) (fun _ v10 => (- intOf v10).toNat)
        case atStart => exact ⟨_, _, rfl, rfl, .inl ⟨rfl, rfl⟩⟩
        case round =>
          obtain ⟨cc, z, rfl, rfl, hz⟩ := hrel
          by_cases q0 : z < 0
          · have q1 : cc = 0 ∧ z = x + t * y + cr := by
              rcases hz with hz | hz
              · exact hz
              · omega
            obtain ⟨rfl, rfl⟩ := q1
            clear hz
            go_wp2_with fail
            go_round
            case rel => exact ⟨_, _, rfl, rfl, .inr ⟨by omega, rfl, by omega⟩⟩
            case measure => simp [intOf]; omega
          · have hc2 : (x + t * y + cr) % 10000 = z % 10000 ∧ (x + t * y + cr) / 10000 = cc + z / 10000 := by omega
            have z0 : 0 ≤ z := by omega
            have z1 : z ≤ 100020000 := by omega
            have cc0 : -1 ≤ cc := by omega
            have cc1 : cc ≤ 0 := by omega
            have HC := Lib.hid hc2
            clear hz hc2
            go_wp2_with (at_builtin; refine wpList_append_src _ rfl (.tmp 37) (.tmp 40) 80 80 rfl w.heap.size 3 i0 _ 1 8 Tryd.underlying80 hi hz0 hz1 hz2 rfl (by decide) u7 i (ints (jointGo l l' t i).1) rfl (HO.out.alloc _) (.slice (some ⟨wo.heap.size, 0, none⟩) 1 1) 1 [.int .i64 (z % 10000)] rfl (Src.ofSlice _ Tryd.underlying80 ⟨wo.heap.size, 0, none⟩ 1 1 [.int .i64 (z % 10000)] rfl (World.news_of_block (heap_alloc_new wo _)) (ints_one (l := [z % 10000]))) G1.out G2.out (Nat.le_trans HB.out.size (by simp)) ?_; intro v2 w2 hown2 hg2 _ _)
            have HO2 := Lib.hid hown2
            have HB2 := Lib.hid (below_grown (HB.out.alloc HB.out.size _) (HO.out.alloc _) hg2 (Nat.le_trans HB.out.size (by simp)))
            clear hown2 hg2
            go_wp2_with fail
            go_roundw
            case rel =>
              refine ⟨i + 1, by simp, by omega, ?_, ?_, HB2.out⟩
              · rw [HEG2.out]; show Value.int _ _ = Value.int _ _; rw [HC.out.2]
              · rw [HEG2.out]; simp only [ints, List.map_append, List.map_cons, List.map_nil]; rw [HC.out.1]; exact HO2.out
            case measure => simp [intOf]; omega
    · obtain rfl : i = max n n' + 1 := by omega
      have OWN := own_cap hown
      have IP : Hid (jointD l l' t = cutD (jointGo l l' t (max n n' + 1)).1) := by unfold jointD; rw [HJ.out]; exact rfl
      obtain ⟨A2, c2, hv7, q1, q2, q3⟩ := OWN
      have FR : Fresh w.heap.size A2 := own_fresh (hv7 ▸ hown)
      subst hv7
      have HFR := Lib.hid FR; clear FR hown
      have q4 : max n n' + 1 ≤ 100000000000000 := by have := HN.out; omega
      have CT := fun w' (hw : Below wr.heap.size wr w') => ref_cut A2 (max n n' + 1) c2 _ w' (q3.keep hw) (by omega) q1 q2
      have HCT := Lib.hid CT; have HQ3 := Lib.hid q3; have HB := Lib.hid hbel
      clear CT q3 hbel
      rcases (show (n < n') ∨ ¬ n < n' by omega) with hm | hm
      all_goals
        go_wp2_with (go_at_call 103; (refine (HCT.out _ (Below.refl _ _)).mono ?_); rintro e w1 ⟨k, rfl, hk, hk2, rfl⟩)
        go_ret
        refine ⟨A2, k, c2, rfl, by omega, q2, ?_, HFR.out, HB.out⟩
        have := HQ3.out.take hk
        rw [IP.out, hk2]
        exact this

end Go.Proofs.YtlkkpgdgnnknpaaDoor
