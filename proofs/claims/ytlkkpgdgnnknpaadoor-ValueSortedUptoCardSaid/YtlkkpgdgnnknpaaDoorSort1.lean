/-
  Package relstorekeep: sign, pure, sameValues, clean.
-/
import Derived.Test.YtlkkpgdgnnknpaaDoorKey5
import Derived.Test.YtlkkpgdgnnknpaaDoorSort0
namespace Go.Proofs.YtlkkpgdgnnknpaaDoor
open Go.RowKit
open Go.BigFrame
set_option linter.unusedVariables false
set_option linter.unusedSimpArgs false

set_option maxHeartbeats 400000 in
theorem keep_sign (a b : Bool) (w : World) : Calls Tryd.prog 15 #[.bool a, .bool b] w fun e w' => e = .returned (.int .i64 (signV a b)) ∧ w = w' := by
  cases a <;> cases b
  all_goals
    go_enter Tryd.func15, Tryd.ntmps15
    go_wp2
    go_ret
    exact ⟨rfl, rfl⟩

set_option maxHeartbeats 400000 in
theorem keep_pure (k n : Int) (s : ByteArray) (w : World) :
    Calls Tryd.prog 45 #[.agg #[.int .i64 k, .int .i64 n, .string s]] w fun e w' => e = .returned (.agg #[.int .i64 (cleanK k), .int .i64 (cleanN k n), .string (cleanS k s)]) ∧ Below w.heap.size w w' := by
  by_cases h1 : k = 1
  · subst h1
    by_cases hn : n = 0
    · subst hn
      go_enter Tryd.func45, Tryd.ntmps45
      go_wp2
      refine bodyPost_ret (v := .agg #[.int .i64 1, .int .i64 0, .string ⟨#[]⟩]) (by simp [results, Tryd.results45, go_sem]) rfl ⟨?_, ?_⟩
      · rfl
      · (repeat (first | exact Below.refl _ _ | assumption | (refine Below.setCell ?_ (by first | omega | (simp <;> omega)) _) | refine Below.drew ?_ | (refine Below.alloc ?_ (by first | omega | (simp <;> omega)) _) | (refine bel_step ?_ (by assumption) (by first | omega | (simp <;> omega)))))
    · have e0 : (n == 0) = false := beq_eq_false_iff_ne.2 hn
      have e1 : (n != 0) = true := by simp [bne, e0]
      go_enter Tryd.func45, Tryd.ntmps45
      go_wp2
      refine bodyPost_ret (v := .agg #[.int .i64 1, .int .i64 1, .string ⟨#[]⟩]) (by simp [results, Tryd.results45, go_sem]) rfl ⟨?_, ?_⟩
      · simp [cleanK, cleanN, cleanS, flagN, e1]
      · (repeat (first | exact Below.refl _ _ | assumption | (refine Below.setCell ?_ (by first | omega | (simp <;> omega)) _) | refine Below.drew ?_ | (refine Below.alloc ?_ (by first | omega | (simp <;> omega)) _) | (refine bel_step ?_ (by assumption) (by first | omega | (simp <;> omega)))))
  · by_cases h2 : k = 2
    · subst h2
      go_enter Tryd.func45, Tryd.ntmps45
      go_wp2
      refine bodyPost_ret (v := .agg #[.int .i64 2, .int .i64 n, .string ⟨#[]⟩]) (by simp [results, Tryd.results45, go_sem]) rfl ⟨?_, ?_⟩
      · rfl
      · (repeat (first | exact Below.refl _ _ | assumption | (refine Below.setCell ?_ (by first | omega | (simp <;> omega)) _) | refine Below.drew ?_ | (refine Below.alloc ?_ (by first | omega | (simp <;> omega)) _) | (refine bel_step ?_ (by assumption) (by first | omega | (simp <;> omega)))))
    · by_cases h3 : k = 3
      · subst h3
        go_enter Tryd.func45, Tryd.ntmps45
        go_wp2
        refine bodyPost_ret (v := .agg #[.int .i64 3, .int .i64 0, .string s]) (by simp [results, Tryd.results45, go_sem]) rfl ⟨?_, ?_⟩
        · rfl
        · (repeat (first | exact Below.refl _ _ | assumption | (refine Below.setCell ?_ (by first | omega | (simp <;> omega)) _) | refine Below.drew ?_ | (refine Below.alloc ?_ (by first | omega | (simp <;> omega)) _) | (refine bel_step ?_ (by assumption) (by first | omega | (simp <;> omega)))))
      · have e1 : (k == 1) = false := beq_eq_false_iff_ne.2 h1
        have e2 : (k == 2) = false := beq_eq_false_iff_ne.2 h2
        have e3 : (k == 3) = false := beq_eq_false_iff_ne.2 h3
        go_enter Tryd.func45, Tryd.ntmps45
        go_wp2
        refine bodyPost_ret (v := .agg #[.int .i64 0, .int .i64 0, .string ⟨#[]⟩]) (by simp [results, Tryd.results45, go_sem]) rfl ⟨?_, ?_⟩
        · simp [cleanK, cleanN, cleanS, h1, h2, h3]
        · (repeat (first | exact Below.refl _ _ | assumption | (refine Below.setCell ?_ (by first | omega | (simp <;> omega)) _) | refine Below.drew ?_ | (refine Below.alloc ?_ (by first | omega | (simp <;> omega)) _) | (refine bel_step ?_ (by assumption) (by first | omega | (simp <;> omega)))))

set_option maxHeartbeats 1600000 in
theorem keep_sameValues (A A' : Option Addr) (n c c' : Nat) (vs : List Val) (w : World) (h : VS w A n vs) (h' : VS w A' n vs) (hn : n ≤ 9223372036854775807) :
    Calls Tryd.prog 18 #[.slice A n c, .slice A' n c'] w fun e w' => e = .returned (.bool true) ∧ Below w.heap.size w w' := by
  go_enter Tryd.func18, Tryd.ntmps18
  go_wp2_with fail
  go_loopw [5, 13] (fun _ i wr => ∃ k : Nat, k ≤ n ∧ i = .int .i64 k ∧ Below w.heap.size w wr) (fun _ i _ => n - (intOf i).toNat)
  case atStart => exact ⟨0, Nat.zero_le _, rfl, Below.refl _ _⟩
  case round =>
    obtain ⟨k, hk, rfl, hbel⟩ := hrel
    by_cases h1 : k < n
    · obtain ⟨b, off, rfl, hbl, hc⟩ := h.2 (by omega)
      obtain ⟨b', off', rfl, hbl', hc'⟩ := h'.2 (by omega)
      have hl : k < vs.length := by rw [h.1]; exact h1
      obtain ⟨a0, a1, a2⟩ := hc k vs[k] (by simp [hl])
      obtain ⟨b0, b1, b2⟩ := hc' k vs[k] (by simp [hl])
      obtain ⟨wc, wf⟩ := bcell hbel
      have z1 : b < wr.heap.size := by have := hbel.size; omega
      have z2 : b' < wr.heap.size := by have := hbel.size; omega
      clear hc hc'
      go_wp2_with fail
      refine wp_region_cls (wr) (by kernel_rfl) (by kernel_rfl) (Cls.start _) ?_
      repeat
        refine wpQuiet_step (fun K hK => ?_)
        go_simp
        first
          | (refine hK _ ?_; clear hK K)
          | (apply Exists.intro; refine ⟨fun w' hw' => ?_, hK _ ?_⟩; (· (first | (with_reducible exact rfl) | (fail) | (obtain ⟨hc, hf⟩ := hw'.facts; go_simp; first | done | (with_reducible exact rfl) | (with_reducible exact ⟨rfl, rfl⟩)))); clear hK K)
      refine wpQuiet_nil ?_
      intro wq hq
      have hb2 := bel_step hbel hq hbel.size
      go_wp2_with fail
      go_roundw
      case rel => exact ⟨k + 1, by omega, by go_num, hb2⟩
      case measure => simp [intOf]; omega
    · go_wp2
      go_ret
      exact ⟨rfl, hbel⟩

/-- what 'clean' hands back -/
def CleanPost (w : World) (vs : List Val) (e : Ending) (w' : World) : Prop :=
  ∃ v, e = .returned v ∧ w'.ownsRow w.heap.size 38 3 v vs.length (cellsV (vs.map cleanV)) ∧ Below w.heap.size w w'
theorem clean_snoc {w2 : World} {B : Nat} {e : TypeId} {v2 : Value} {vs : List Val} {k : Nat} (h : k < vs.length)
    (ho : w2.ownsRow B e 3 v2 (k + 1) (cellsV ((vs.take k).map cleanV) ++ [.int .i64 (cleanK vs[k].k), .int .i64 (cleanN vs[k].k vs[k].n), .string (cleanS vs[k].k vs[k].s)])) :
    w2.ownsRow B e 3 v2 (k + 1) (cellsV ((vs.take (k + 1)).map cleanV)) := by
  rw [take_snocV h, List.map_append, cellsV_append]; exact ho

set_option maxRecDepth 100000 in
set_option maxHeartbeats 6400000 in
theorem keep_clean (A : Option Addr) (n c : Nat) (vs : List Val) (w : World) (h : VS w A n vs) (hn : n ≤ 100000000) :
    Calls Tryd.prog 19 #[.slice A n c] w (CleanPost w vs) := by
  obtain ⟨i0, hi, hz0, hz1, hz2⟩ := info_parts infoValue
  have HH := Lib.hid h
  have NN := Lib.hid hn
  have hnn : n ≤ 9223372036854775807 := by omega
  have hvl := Lib.hid h.1
  clear h hn
  go_enter Tryd.func19, Tryd.ntmps19
  go_wp2_with fail
  go_loopw [3, 8] (fun v3 i wr => ∃ k : Nat, k ≤ n ∧ i = .int .i64 k ∧ wr.ownsRow w.heap.size 38 3 v3 k (cellsV ((vs.take k).map cleanV)) ∧ Below w.heap.size w wr) (fun _ i _ => n - (intOf i).toNat)
  case atStart => exact ⟨0, Nat.zero_le _, rfl, World.ownsRow_nil _ _ _ _, Below.refl _ _⟩
  case round =>
    obtain ⟨k, hk, rfl, hown, hbel⟩ := hrel
    have HO := Lib.hid hown
    have HB := Lib.hid hbel
    by_cases h1 : k < n
    · obtain ⟨b, off, rfl, hbl, hc⟩ := (HH.out.keep hbel).2 (by omega)
      have hl : k < vs.length := by rw [hvl.out]; exact h1
      obtain ⟨a0, a1, a2⟩ := hc k vs[k] (by simp [hl])
      obtain ⟨xk, hxk⟩ : ∃ x, vs[k] = x := ⟨_, rfl⟩
      have HXK := Lib.hid hxk
      rw [hxk] at a0 a1 a2
      clear hc hown hbel hxk
      have G1 := Lib.hid (show k + 1 ≤ maxLen by have := NN.out; unfold maxLen; omega)
      have G2 := Lib.hid (show (k + 1) * 32 ≤ 140737488355328 by have := NN.out; omega)
      go_wp2_with (first
        | (go_at_call 45; (with_reducible refine (keep_pure _ _ _ _).mono ?_); rintro e w1 ⟨rfl, hb⟩; have HB1 := Lib.hid (show Below wr.heap.size wr w1 by (repeat (first | exact Below.refl _ _ | assumption | (refine Below.setCell ?_ (by first | omega | (simp <;> omega)) _) | refine Below.drew ?_ | (refine Below.alloc ?_ (by first | omega | (simp <;> omega)) _) | (refine bel_step ?_ (by assumption) (by first | omega | (simp <;> omega)))))); have HO1 := Lib.hid (own_keep HO.out HB1.out); have HW1 := Lib.hid (bel_step HB.out HB1.out HB.out.size); clear hb)
        | ((at_builtin; refine wpList_append_src _ rfl (.tmp 12) (.tmp 15) 22 22 rfl (w.heap.size) 38 i0 _ 3 32 Tryd.underlying22 hi hz0 hz1 hz2 zeroCellsValue (by decide) (_) (k) (_) rfl (HO1.out.alloc _) (.slice (some ⟨_, 0, none⟩) 1 1) (1) ([.int .i64 (cleanK xk.k), .int .i64 (cleanN xk.k xk.n), .string (cleanS xk.k xk.s)]) rfl (Src.ofSlice _ Tryd.underlying22 ⟨_, 0, none⟩ 1 1 ([.int .i64 (cleanK xk.k), .int .i64 (cleanN xk.k xk.n), .string (cleanS xk.k xk.s)]) rfl (World.news_of_block (heap_alloc_new _ _)) (by simp [Value.oneCell'])) (G1.out) (G2.out) (Nat.le_trans HW1.out.size (by simp)) ?_; intro v2 w2 hown2 hg2 _ hat2); have HO2 := Lib.hid hown2; have HW2 := Lib.hid ((HW1.out.alloc HW1.out.size _).grown hg2 (by have := HW1.out.size; simp; omega) (fun j hj => (HO1.out.lt j hj).1)); clear hown2 hg2 hat2))
      go_roundw
      case rel => exact ⟨k + 1, by omega, by go_num, clean_snoc hl (by rw [HXK.out]; exact HO2.out), HW2.out⟩
      case measure => simp [intOf]; omega
    · have hkn : k = n := by omega
      subst hkn
      go_wp2_with fail
      go_ret
      refine ⟨_, rfl, ?_, HB.out⟩
      have := HO.out
      rw [List.take_of_length_le (by rw [hvl.out]; exact Nat.le_refl _)] at this
      rw [hvl.out]
      exact this

end Go.Proofs.YtlkkpgdgnnknpaaDoor
