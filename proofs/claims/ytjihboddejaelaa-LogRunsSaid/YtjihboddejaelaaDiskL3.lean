/-
  The law DiskRuns (3): the walk.
-/
import Derived.Test.YtjihboddejaelaaDiskL2
namespace Go.Proofs.Ytjihboddejaelaa
open Go.RowKit
open Go.BigFrame
set_option linter.unusedVariables false
set_option linter.unusedSimpArgs false

/-- the slice value '.slice A n c' reads as these steps -/
def AS (w : World) (A : Option Addr) (n : Nat) (acts : List ActV) : Prop :=
  acts.length = n ∧ (0 < n → ∃ b off, A = some ⟨b, off, none⟩ ∧ b < w.heap.size ∧ ∀ i a, acts[i]? = some a → ∀ j u, a.arr[j]? = some u → w.cell? ⟨b, off + i * 8 + j, none⟩ = some u) ∧ ∀ a ∈ acts, a.Ok w
theorem AS.take {w : World} {A : Option Addr} {n : Nat} {acts : List ActV} (h : AS w A n acts) {k : Nat} (hk : k ≤ n) : AS w A k (acts.take k) :=
  ⟨by rw [List.length_take, h.1]; omega, fun hn => by
    obtain ⟨b, off, hA, hl, hc⟩ := h.2.1 (by omega)
    exact ⟨b, off, hA, hl, fun i v hv => hc i v (by
      rw [List.getElem?_take] at hv
      split at hv
      · exact hv
      · cases hv)⟩, fun a ha => h.2.2 a (List.mem_of_mem_take ha)⟩
theorem slice_short (A : Option Addr) (m c a : Nat) (h : a ≤ c) (w : World) : (Instr.sliceAt 22 (.slice A m c) none (some (.int .i64 a)) none).run Try.prog w = .ok (.slice A a c) w := by
  have h1 : (0 : Int) ≤ (a : Int) := by omega
  have h2 : (a : Int) ≤ (c : Int) := by omega
  go_simp
set_option maxHeartbeats 400000 in
theorem law_short (A : Option Addr) (n c : Nat) (hc : n ≤ c) (w : World) : Calls Try.prog 9 #[.slice A n c] w fun e w' => e = .returned (.slice A (min n 250) c) ∧ w = w' := by
  by_cases h : n ≤ 250
  · have E := Lib.hid (show min n 250 = n by omega)
    rw [E.out]
    have hm : min (n : Int) 250 = (n : Int) := by omega
    have hs := fun w => slice_short A n c n hc w
    go_enter Try.func9, Try.ntmps9
    go_wp2_with fail
    go_ret
    exact ⟨rfl, rfl⟩
  · have E := Lib.hid (show min n 250 = 250 by omega)
    rw [E.out]
    have hm : min (n : Int) 250 = 250 := by omega
    have hs := fun w => slice_short A n c 250 (by omega) w
    go_enter Try.func9, Try.ntmps9
    go_wp2_with fail
    go_ret
    exact ⟨rfl, rfl⟩
theorem Turn.belowN {w w' : World} {b : List (Option Nat)} (h : Turn [] b w w') : Below w.heap.size w w' := ⟨h.os, h.tape, h.output, h.size, fun k hk => h.block k hk (fun h2 => by cases h2)⟩
theorem Turn.newN {w w' : World} {b : List (Option Nat)} (h : Turn [] b w w') : ∀ k, some k ∈ b → w.heap.size ≤ k := fun k hk => by
  rcases h.new k hk with h2 | h2
  · cases h2
  · exact h2

set_option maxRecDepth 100000 in
set_option maxHeartbeats 3200000 in
theorem law_DiskRuns (A : Option Addr) (n c : Nat) (acts : List ActV) (w : World) (h : AS w A n acts) (hc : n ≤ c) :
    Calls Try.prog 3 #[.slice A n c] w fun e w' => e = .returned (.bool true) ∧ Below w.heap.size w w' := by
  have HA := Lib.hid (h.take (k := min n 250) (by omega))
  have TS := Lib.hid (fun w1 => law_short A n c hc w1)
  obtain ⟨N, hN⟩ : ∃ N, min n 250 = N := ⟨_, rfl⟩
  have hN2 : N ≤ 250 := by omega
  obtain ⟨al, has⟩ : ∃ al, acts.take (min n 250) = al := ⟨_, rfl⟩
  rw [has] at HA
  rw [hN] at HA TS
  clear h hc hN has
  go_enter Try.func3, Try.ntmps3
  go_wp2_with fail
  refine (disk_New w).mono ?_
  rintro e w1 ⟨g, b, rfl, hp, ht1⟩
  go_wp2_with fail
  refine (refd_New w1).mono ?_
  rintro e w2 ⟨r, c2, rfl, hq, ht2⟩
  have H0 : Hid (Two w w2 g r b c2 Dk.new Dk.new) := ⟨hp.below ht2.belowN, hq, fun k hk h2 => by have := hp.lt hk; have := ht2.newN k h2; omega, ht1.newN, fun k hk => Nat.le_trans ht1.size (ht2.newN k hk), bel_step ht1.belowN ht2.belowN ht1.size⟩
  clear hp ht1 hq ht2
  go_wp2_with (go_at_call 9; (with_reducible refine (TS.out _).mono ?_); rintro e w3 ⟨rfl, rfl⟩)
  go_loopw [6, 14] (fun _ v14 wr => ∃ (i : Nat) (b c : List (Option Nat)) (D : Dk), i ≤ N ∧ v14 = .int .i64 i ∧ Two w wr g r b c D D ∧ D.ok ∧ D.waits.length ≤ i ∧ D.count ≤ i) (fun _ v14 _ => N - (intOf v14).toNat)
  case atStart => exact ⟨0, b, c2, Dk.new, Nat.zero_le _, rfl, H0.out, Dk.new_ok, Nat.le_refl _, Nat.le_refl _⟩
  case round =>
    clear H0
    obtain ⟨i, b, c3, D, hi, rfl, hT, hok, hwl, hcl⟩ := hrel
    have HT := Lib.hid hT
    have OK := Lib.hid hok
    clear hT hok
    by_cases hin : i < N
    · obtain ⟨k, off, rfl, hk, hcell⟩ := HA.out.2.1 (by omega)
      have hl : i < al.length := by rw [HA.out.1]; exact hin
      have hcell2 := hcell i al[i] (by simp [hl])
      have AO := Lib.hid (HA.out.2.2 al[i] (List.getElem_mem hl))
      obtain ⟨a, ha⟩ : ∃ a, al[i] = a := ⟨_, rfl⟩
      rw [ha] at hcell2 AO
      obtain ⟨wcl, wfl⟩ := bcell HT.out.bel
      have d0 : wr.cell? ⟨k, off + i * 8, none⟩ = some (.int .i64 a.kind) := (wcl k (off + i * 8 + 0) hk).trans (hcell2 0 _ rfl)
      have d1 : wr.cell? ⟨k, off + i * 8 + 1, none⟩ = some (.int .i64 a.f) := (wcl k (off + i * 8 + 1) hk).trans (hcell2 1 _ rfl)
      have d2 : wr.cell? ⟨k, off + i * 8 + 2, none⟩ = some (.int .i64 a.at_) := (wcl k (off + i * 8 + 2) hk).trans (hcell2 2 _ rfl)
      have d3 : wr.cell? ⟨k, off + i * 8 + 3, none⟩ = some (.int .i64 a.n) := (wcl k (off + i * 8 + 3) hk).trans (hcell2 3 _ rfl)
      have d4 : wr.cell? ⟨k, off + i * 8 + 4, none⟩ = some (.string a.s) := (wcl k (off + i * 8 + 4) hk).trans (hcell2 4 _ rfl)
      have d5 : wr.cell? ⟨k, off + i * 8 + 5, none⟩ = some (.string a.t) := (wcl k (off + i * 8 + 5) hk).trans (hcell2 5 _ rfl)
      have d6 : wr.cell? ⟨k, off + i * 8 + 6, none⟩ = some (.slice a.kA a.kn a.kc) := (wcl k (off + i * 8 + 6) hk).trans (hcell2 6 _ rfl)
      have d7 : wr.cell? ⟨k, off + i * 8 + 7, none⟩ = some (.slice a.cA a.cn a.cc) := (wcl k (off + i * 8 + 7) hk).trans (hcell2 7 _ rfl)
      have zz : k < wr.heap.size := by have := HT.out.bel.size; omega
      have AO2 := Lib.hid (AO.out.below HT.out.bel)
      have SL := Lib.hid (stepD_len D a)
      have SO := Lib.hid (stepD_ok OK.out (a := a) AO.out.n)
      have HT1 := Lib.hid (HT.out.step (below_mk wr (.cells a.arr 31)))
      have AO3 := Lib.hid (AO2.out.below (below_mk wr (.cells a.arr 31)))
      have TD := Lib.hid (fun w1 h1 h2 => law_disks w g r b c3 D a w1 h1 OK.out (by omega) (by omega) h2 AO.out.lt)
      have TF := Lib.hid (fun b1 c1 w1 h1 => law_files w g r b1 c1 (stepD D a) w1 h1 SO.out (by have := SL.out.1; omega))
      clear hcell hcell2 ha wcl wfl hl
      unfold ActV.arr at TD HT1 AO3
      go_wp2_with (first | (go_at_call 10; (with_reducible refine (TD.out _ HT1.out AO3.out).mono ?_); rintro e w4 ⟨rfl, b4, c4, hT4⟩; have H4 := Lib.hid hT4; clear hT4) | (go_at_call 11; (with_reducible refine (TF.out _ _ _ H4.out).mono ?_); rintro e w5 ⟨rfl, hb5⟩; have H5 := Lib.hid (H4.out.step hb5); clear hb5))
      go_roundw
      case rel => exact ⟨i + 1, _, _, _, by omega, by simp, H5.out, SO.out, by have := SL.out.1; omega, by have := SL.out.2; omega⟩
      case measure => simp [intOf]; omega
    · obtain rfl : i = N := by omega
      go_wp2_with fail
      go_ret
      exact ⟨rfl, HT.out.bel⟩

end Go.Proofs.Ytjihboddejaelaa
