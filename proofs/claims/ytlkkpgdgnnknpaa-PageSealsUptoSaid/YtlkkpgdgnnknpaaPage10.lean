/-
  The walk of relstorelaw.PageSeals.
-/
import Derived.Test.YtlkkpgdgnnknpaaPage9
import Derived.WalkLawsBesides
namespace Go.Proofs.Ytlkkpgdgnnknpaa
open Go.RowKit
open Go.BigFrame
set_option linter.unusedVariables false

set_option maxHeartbeats 400000 in
theorem law_num (x : Int) (w : World) : Calls Try.prog 12 #[.int .i64 x] w fun e w' => e = .returned (.int .i64 x) ∧ w = w' := by
  go_enter Try.func12, Try.ntmps12
  go_wp2
  go_ret
  exact ⟨rfl, rfl⟩

set_option maxRecDepth 100000 in
set_option maxHeartbeats 3200000 in
theorem law_PageSeals (K L : Int) (A : Option Addr) (n c : Nat) (cs : List ByteArray) (s : ByteArray) (w : World) (h : SS w A n cs) (hn : n ≤ 4194304) (hu : usedN cs ≤ 8388608) (hs : s.size ≤ 1048576) :
    Calls Try.prog 6 #[.agg #[.int .i64 K, .int .i64 L, .slice A n c], .string s] w fun e w' => e = .returned (.bool true) ∧ Below w.heap.size w w' := by
  obtain ⟨k1, l1, x1, N, ps, hN, ho1, ho2⟩ := opens_alike s hs
  have HO1 := Lib.hid ho1; have HO2 := Lib.hid ho2
  clear ho1 ho2
  have HU := Lib.hid hu
  have HS := Lib.hid h
  obtain ⟨t, ht⟩ : ∃ t, sealS K L cs = t := ⟨_, rfl⟩
  obtain ⟨x, hx⟩ : ∃ x, sealE K L cs = x := ⟨_, rfl⟩
  have T1 := Lib.hid (fun A n c w h hn => page_Seal K L A n c cs w h hn hu)
  have T2 := Lib.hid (fun A n c w h hn => ref_Seal K L A n c cs w h hn hu)
  rw [ht, hx] at T1 T2
  clear ht hx h
  obtain ⟨u, hu'⟩ : ∃ u, usedN cs = u := ⟨_, rfl⟩
  have T3 := Lib.hid (fun A n c w h hn => page_Used A n c cs w h hn hu)
  rw [hu'] at T3 hu
  have HUE := Lib.hid hu'
  clear hu'
  obtain ⟨y, hy⟩ : ∃ y, crcN s.data.toList = y := ⟨_, rfl⟩
  have T4 := Lib.hid (fun w1 => page_Sum s w1 (by omega))
  have T5 := Lib.hid (fun w1 => ref_Sum s w1 (by omega))
  rw [hy] at T4 T5
  clear hy
  have hb0 := Lib.hid (below_mkP w (.cells #[.int .i64 K, .int .i64 L, .slice A n c] 40))
  have hP := Lib.hid (Has.new w 40 #[.int .i64 K, .int .i64 L, .slice A n c])
  go_enter Try.func6, Try.ntmps6
  go_wp2_with fail
  refine (law_lentTexts A n c cs _ (HS.out.keep hb0.out) hn).mono ?_
  rintro e w1 ⟨g, cap, rfl, hcap, hx1, hb1⟩
  have hP1 := Lib.hid (hP.out.belowS hb1)
  have HB1 := Lib.hid (bel_step hb0.out hb1 hb0.out.size)
  have HX1 := Lib.hid hx1
  have HS1 := Lib.hid ((HS.out.keep hb0.out).keep hb1)
  obtain ⟨p0, p1, p2⟩ := hP1.out.cells3
  have z1 := hP1.out.lt
  have i3 : (n : Int) ≤ (cap : Int) := by omega
  have ht1 := hx1.take (k := n) (by omega)
  rw [(marksT_at HS.out.1).2.2] at ht1
  have HT1 := Lib.hid ht1
  clear hx1 hb1 ht1 hP hb0
  go_wp2_with fail
  refine wp_region_cls (w1) (by kernel_rfl) (by kernel_rfl) (Cls.start _) ?_
  repeat
    refine wpQuiet_step (fun K hK => ?_)
    go_simp
    first
      | (refine hK _ ?_; clear hK K)
      | (apply Exists.intro; refine ⟨fun w' hw' => ?_, hK _ ?_⟩; (· (first | (with_reducible exact rfl) | ((go_at_call 27; refine (T1.out _ _ _ _ (HT1.out.keep hw'.bel) hn).mono ?_; rintro e w1 ⟨rfl, hb⟩; exact ⟨rfl, Cls.step hw' hb⟩)) | (obtain ⟨hc, hf⟩ := hw'.facts; go_simp; first | done | (with_reducible exact rfl) | (with_reducible exact ⟨rfl, rfl⟩)))); clear hK K)
  refine wpQuiet_nil ?_
  intro wq hq
  have hP2 := Lib.hid (hP1.out.belowS hq.bel)
  have HB2 := Lib.hid (bel_step HB1.out hq.bel HB1.out.size)
  have HX2 := Lib.hid (HX1.out.keep hq.bel)
  have HT2 := Lib.hid (HT1.out.keep hq.bel)
  have HS2 := Lib.hid (HS1.out.keep hq.bel)
  clear p0 p1 p2 z1 hq hP1 HB1 HX1 HT1 HS1 HS
  obtain ⟨p0, p1, p2⟩ := hP2.out.cells3
  have z1 := hP2.out.lt
  go_wp2_with fail
  go_at_call 28
  refine (T3.out _ _ _ _ HT2.out hn).mono ?_
  rintro e w3 ⟨rfl, rfl⟩
  go_wp2_with fail
  go_at_call 29
  refine (law_backTexts _ _ _ _ _ _ _ HX2.out hcap HS2.out (by omega)).mono ?_
  rintro e w3 ⟨rfl, hb⟩
  have hP3 := Lib.hid (hP2.out.belowS hb)
  have HB3 := Lib.hid (bel_step HB2.out hb HB2.out.size)
  have HS3 := Lib.hid (HS2.out.keep hb)
  clear p0 p1 p2 z1 hb hP2 HB2 HX2 HT2 HS2
  obtain ⟨p0, p1, p2⟩ := hP3.out.cells3
  have z1 := hP3.out.lt
  go_wp2_with fail
  go_at_call 30
  refine (T2.out _ _ _ _ HS3.out hn).mono ?_
  rintro e w4 ⟨rfl, hb⟩
  have hP4 := Lib.hid (hP3.out.belowS hb)
  have HB4 := Lib.hid (bel_step HB3.out hb HB3.out.size)
  have HS4 := Lib.hid (HS3.out.keep hb)
  clear p0 p1 p2 z1 hb hP3 HB3 HS3
  go_wp2_with fail
  go_at_call 31
  refine (HO1.out _).mono ?_
  rintro e w5 ⟨B, d, rfl, hs5, hb⟩
  have HB5 := Lib.hid ((bel_step HB4.out hb HB4.out.size).alloc (Nat.le_trans HB4.out.size hb.size) (.cells #[.int .i64 k1, .int .i64 l1, .slice B N d] 40))
  have hP5 := Lib.hid ((hP4.out.belowS hb).alloc (.cells #[.int .i64 k1, .int .i64 l1, .slice B N d] 40))
  have HS5 := Lib.hid ((HS4.out.keep hb).keep (below_mkP w5 (.cells #[.int .i64 k1, .int .i64 l1, .slice B N d] 40)))
  have HQ5 := Lib.hid (hs5.keep (below_mkP w5 (.cells #[.int .i64 k1, .int .i64 l1, .slice B N d] 40)))
  have hG5 := Lib.hid (Has.new w5 40 #[.int .i64 k1, .int .i64 l1, .slice B N d])
  clear hs5 hb hP4 HB4 HS4
  go_wp2_with fail
  go_at_call 32
  refine (HO2.out _).mono ?_
  rintro e w6 ⟨B', d', rfl, hs6, hb⟩
  have hb6 := bel_step (below_mkP w5 (.cells #[.int .i64 k1, .int .i64 l1, .slice B N d] 40)) hb (by simp)
  have hlt := hb6.size
  have HB6 := Lib.hid ((bel_step HB5.out hb HB5.out.size).alloc (Nat.le_trans HB5.out.size hb.size) (.cells #[.int .i64 k1, .int .i64 l1, .slice B' N d'] 40))
  have hP6 := Lib.hid ((hP5.out.belowS hb).alloc (.cells #[.int .i64 k1, .int .i64 l1, .slice B' N d'] 40))
  have HS6 := Lib.hid ((HS5.out.keep hb).keep (below_mkP w6 (.cells #[.int .i64 k1, .int .i64 l1, .slice B' N d'] 40)))
  have HQ6 := Lib.hid ((HQ5.out.keep hb).keep (below_mkP w6 (.cells #[.int .i64 k1, .int .i64 l1, .slice B' N d'] 40)))
  have HR6 := Lib.hid (hs6.keep (below_mkP w6 (.cells #[.int .i64 k1, .int .i64 l1, .slice B' N d'] 40)))
  have hG6 := Lib.hid ((hG5.out.belowS hb).alloc (.cells #[.int .i64 k1, .int .i64 l1, .slice B' N d'] 40))
  have hH6 := Lib.hid (Has.new w6 40 #[.int .i64 k1, .int .i64 l1, .slice B' N d'])
  clear hs6 hb hb6 hlt hP5 HB5 HS5 HQ5 hG5
  obtain ⟨p0, p1, p2⟩ := hP6.out.cells3
  have z1 := hP6.out.lt
  go_wp2_with fail
  clear p0 p1 p2 z1
  generalize w6.alloc (.cells #[.int .i64 k1, .int .i64 l1, .slice B' N d'] 40) = W at *
  go_loop [15, 64] (fun v15 v64 => ∃ i : Nat, i ≤ n ∧ v64 = .int .i64 i ∧ v15 = .int .i64 (usedN (cs.take i) : Nat)) (fun _ v64 => n - (intOf v64).toNat)
  case atStart => exact ⟨0, Nat.zero_le _, rfl, rfl⟩
  case round =>
    obtain ⟨i, hi, rfl, rfl⟩ := hrel
    by_cases h1 : i < n
    · obtain ⟨b, off, rfl, hb, hc⟩ := HS6.out.2 (by omega)
      have hl : i < cs.length := by rw [HS6.out.1]; exact h1
      have c0 := hc i cs[i] (by simp [hl])
      have E := Lib.hid (usedN_take cs hl)
      have x2' := usedN_take_le cs (i + 1)
      rw [E.out] at x2'
      have x2'' := HU.out
      obtain ⟨z, hz⟩ : ∃ z, usedN (cs.take i) = z := ⟨_, rfl⟩
      rw [hz] at x2'
      have HZ := Lib.hid hz
      rw [hz]
      clear hz hc
      have x2 : z ≤ 8388608 := by omega
      have x3 : cs[i].size ≤ 8388608 := by omega
      clear x2' x2''
      go_wp2_with fail
      go_round
      case rel => exact ⟨i + 1, by omega, by simp, by rw [E.out, HZ.out]; simp⟩
      case measure => simp [intOf]; omega
    · obtain rfl : i = n := by omega
      have E := Lib.hid (show ((usedN (cs.take i) : Nat) : Int) = (u : Nat) by rw [← HUE.out, ← HS6.out.1, List.take_length])
      rw [E.out]
      obtain ⟨q0, q1, q2⟩ := hG6.out.cells3
      have zq := hG6.out.lt
      obtain ⟨r0, r1, r2⟩ := hH6.out.cells3
      have zr := hH6.out.lt
      go_wp2_with (first | (go_at_call 12; refine (law_num _ _).mono ?_; rintro e w7 ⟨rfl, rfl⟩))
      refine (law_sameTexts _ _ _ _ _ _ _ HQ6.out HR6.out (by omega)).mono ?_
      rintro e w7 ⟨rfl, hb7⟩
      go_wp2_with (first | (go_at_call 34; refine (T4.out _).mono ?_; rintro e w8 ⟨rfl, rfl⟩) | (go_at_call 35; refine (T5.out _).mono ?_; rintro e w8 ⟨rfl, rfl⟩))
      go_ret
      exact ⟨rfl, bel_step HB6.out hb7 HB6.out.size⟩

end Go.Proofs.Ytlkkpgdgnnknpaa
