/-
  The methods of disk.Disk (4): Crash.
-/
import Derived.Test.YtjihboddejaelaaDisk4
namespace Go.Proofs.Ytjihboddejaelaa
open Go.RowKit
open Go.BigFrame
set_option linter.unusedVariables false
set_option linter.unusedSimpArgs false

/-- the slice value '.slice A n c' reads as these numbers -/
def IS (w : World) (A : Option Addr) (n : Nat) (ks : List Int) : Prop :=
  ks.length = n ∧ (0 < n → ∃ b off, A = some ⟨b, off, none⟩ ∧ b < w.heap.size ∧ ∀ i k, ks[i]? = some k → w.cell? ⟨b, off + i, none⟩ = some (.int .i64 k))
/-- the block of a slice -/
def blkOf (A : Option Addr) : Option Nat := A.map (·.block)
theorem IS.turn {w w' : World} {A : Option Addr} {n : Nat} {ks : List Int} {b b' : List (Option Nat)} (h : IS w A n ks) (ht : Turn b b' w w') (hn : 0 < n → ∀ k, blkOf A = some k → some k ∉ b) : IS w' A n ks :=
  ⟨h.1, fun h0 => by
    obtain ⟨k, off, rfl, hl, hc⟩ := h.2 h0
    refine ⟨k, off, rfl, Nat.lt_of_lt_of_le hl ht.size, fun i x hx => ?_⟩
    exact (World.cell?_of_block (ht.block k hl (hn h0 k rfl))).trans (hc i x hx)⟩
theorem IS.keep {w w' : World} {A : Option Addr} {n : Nat} {ks : List Int} (h : IS w A n ks) (hb : Below w.heap.size w w') : IS w' A n ks := h.turn (Turn.below [] hb) (fun _ _ _ h => by cases h)
theorem crashL_snoc (keep : List Int) {ws : List Ch} {i : Nat} (hi : i < ws.length) (f : Nat) (l : List UInt8) : crashL keep (ws.take (i + 1)) 0 f l = crash1 ws[i] (howL keep i) (crashL keep (ws.take i) 0 f l) f := by
  rw [List.take_succ_eq_append_getElem hi, crashL_append, List.length_take, Nat.min_eq_left (by omega), Nat.zero_add]; rfl
theorem crash1_no {c : Ch} {how : Int} {l : List UInt8} {f : Nat} (h1 : how ≠ 1) (h2 : how ≠ 2) : crash1 c how l f = l := by
  unfold crash1; rw [if_neg h1, if_neg h2]; split <;> rfl
theorem crash1_far {c : Ch} {how : Int} {l : List UInt8} {f : Nat} (h : c.file ≠ f) : crash1 c how l f = l := if_neg h
theorem crash1_one {c : Ch} {l : List UInt8} {f : Nat} (h : c.file = f) : crash1 c 1 l f = c.done l := by unfold crash1; rw [if_pos h, if_pos rfl]
theorem crash1_two {c : Ch} {l : List UInt8} {f : Nat} (h : c.file = f) : crash1 c 2 l f = c.half.done l := by unfold crash1; rw [if_pos h, if_neg (by omega), if_pos rfl]
theorem half_cut {c : Ch} (h : c.cut = true) : c.half = c := if_pos h
theorem half_text {c : Ch} (h : c.cut = false) : c.half = { c with text := c.text.extract 0 (c.text.size / 2), cut := false } := by
  unfold Ch.half; rw [if_neg (by rw [h]; decide)]; cases c; simp only at h; subst h; rfl
theorem below_mk (w : World) (o : Obj) : Below w.heap.size w (w.alloc o) := (Below.refl _ _).alloc (Nat.le_refl _) _
theorem howL_none {keep : List Int} (h : keep.length = 0) (i : Nat) : howL keep i = 0 := if_pos h
theorem howL_some {keep : List Int} {n : Nat} (h : keep.length = n) (hn : 0 < n) (i : Nat) : howL keep i = keep.getD (i % n) 0 := by
  unfold howL; rw [h, if_neg (by omega)]

set_option maxRecDepth 100000 in
set_option maxHeartbeats 6400000 in
theorem disk_Crash (g : Nat) (D : Dk) (b : List (Option Nat)) (A : Option Addr) (n c : Nat) (ks : List Int) (w : World) (h : DP w b g D) (hok : D.ok) (hws : D.waits.length ≤ 1000000000) (hK : IS w A n ks) (hn : n ≤ 9223372036854775807) (hA : 0 < n → ∀ k, blkOf A = some k → some k ∉ b) :
    Calls Try.prog 23 #[.pointer (some ⟨g, 0, none⟩), .slice A n c] w (DPost w b g (D.crash ks) (.tuple #[])) := by
  obtain ⟨i0, hi, hz0, hz1, hz2⟩ := info_parts infoByte
  obtain ⟨v0, v1, v2, v3, v4, rfl, hO⟩ := h
  obtain ⟨A4, k4, rfl, hnc, hcs⟩ := CS.of_own (show w.ownsRow 0 112 4 v4 D.waits.length (chCells D.waits) from hO.own 4 rfl)
  have HO := Lib.hid hO
  have OK := Lib.hid hok
  have HK := Lib.hid hK
  have HA := Lib.hid hA
  obtain ⟨c0, c1, c2, c3, c4, c5, c6, c7⟩ := hO.has.cells8
  have cz := hO.has.lt
  clear hO hok hK hA hcs
  go_enter Try.func23, Try.ntmps23
  go_wp2_with fail
  go_loopw [15] (fun v15 wr => ∃ (i : Nat) (u0 u2 : Value), i ≤ D.waits.length ∧ v15 = .int .i64 i ∧
    Ob wr g 87 (dCells D.fails D.down D.count u0 v1 u2 v3 (.slice A4 D.waits.length k4)) (dRows (crashL ks (D.waits.take i) 0 0 D.l0) (D.seen 0) (crashL ks (D.waits.take i) 0 1 D.l1) (D.seen 1) D.waits u0 v1 u2 v3 (.slice A4 D.waits.length k4)) ∧
    Turn (blks g (dRows D.l0 (D.seen 0) D.l1 (D.seen 1) D.waits v0 v1 v2 v3 (.slice A4 D.waits.length k4))) (blks g (dRows (crashL ks (D.waits.take i) 0 0 D.l0) (D.seen 0) (crashL ks (D.waits.take i) 0 1 D.l1) (D.seen 1) D.waits u0 v1 u2 v3 (.slice A4 D.waits.length k4))) w wr) (fun v15 _ => D.waits.length - (intOf v15).toNat)
  case atStart => exact ⟨0, v0, v2, Nat.zero_le _, rfl, HO.out, Turn.refl _ _⟩
  case round =>
    clear c0 c1 c2 c3 c4 c5 c6 c7 cz
    obtain ⟨i, u0, u2, hin, rfl, ho, ht⟩ := hrel
    have HOr := Lib.hid ho
    have HT := Lib.hid ht
    obtain ⟨c0, c1, c2, c3, c4, c5, c6, c7⟩ := ho.has.cells8
    have cz := ho.has.lt
    have HKr := Lib.hid (HK.out.turn ht HA.out)
    clear ho ht
    by_cases hi2 : i < D.waits.length
    · obtain ⟨A4', k4', e4, _, hcs⟩ := CS.of_own (show wr.ownsRow 0 112 4 (.slice A4 D.waits.length k4) D.waits.length (chCells D.waits) from HOr.out.own 4 rfl)
      cases e4
      obtain ⟨b4, o4, rfl, hb4, hcc⟩ := hcs.2 (by omega)
      obtain ⟨d0, d1, d2, d3⟩ := hcc i D.waits[i] (by simp [hi2])
      have C0 := Lib.hid (crashL_snoc ks hi2 0 D.l0)
      have C1 := Lib.hid (crashL_snoc ks hi2 1 D.l1)
      have FX := Lib.hid (OK.out.waits D.waits[i] (List.getElem_mem hi2))
      obtain ⟨x, hx⟩ : ∃ x, D.waits[i] = x := ⟨_, rfl⟩
      simp only [hx] at d0 d1 d2 d3 C0 C1 FX
      have L0 := Lib.hid (crashL_fits ks (D.waits.take i) 0 0 D.l0 (fun c hc => OK.out.waits c (List.mem_of_mem_take hc)) OK.out.l0)
      have L1 := Lib.hid (crashL_fits ks (D.waits.take i) 0 1 D.l1 (fun c hc => OK.out.waits c (List.mem_of_mem_take hc)) OK.out.l1)
      have hxf : x.file < 2 := FX.out.1
      clear hcc hcs hx
      obtain ⟨how, hhow⟩ : ∃ x, howL ks i = x := ⟨_, rfl⟩
      rw [hhow] at C0 C1
      have HHOW := Lib.hid hhow
      clear hhow
      by_cases hn0 : n = 0
      · have h0 : how = 0 := by rw [← HHOW.out]; exact howL_none (by rw [HKr.out.1]; exact hn0) i
        subst hn0 h0
        have E0 := Lib.hid (show crashL ks (D.waits.take (i + 1)) 0 0 D.l0 = crashL ks (D.waits.take i) 0 0 D.l0 by rw [C0.out]; exact crash1_no (by omega) (by omega))
        have E1 := Lib.hid (show crashL ks (D.waits.take (i + 1)) 0 1 D.l1 = crashL ks (D.waits.take i) 0 1 D.l1 by rw [C1.out]; exact crash1_no (by omega) (by omega))
        clear C0 C1
        go_wp2_with fail
        go_roundw
        case rel => exact ⟨i + 1, _, _, by omega, by simp, by rw [E0.out, E1.out]; exact HOr.out.alloc _, by rw [E0.out, E1.out]; exact HT.out.trans (Turn.below _ (below_mk _ _))⟩
        case measure => simp [intOf]; omega
      · obtain ⟨bk, ok, rfl, hbk, hkc⟩ := HKr.out.2 (by omega)
        have hkn : i % n < ks.length := by rw [HKr.out.1]; exact Nat.mod_lt _ (by omega)
        have kc := hkc (i % n) how (by rw [← HHOW.out, howL_some HKr.out.1 (by omega), List.getD_eq_getElem?_getD, List.getElem?_eq_getElem hkn]; rfl)
        have ke : (i : Int) % (n : Int) = ((i % n : Nat) : Int) := by simp
        have n0 : (0 : Int) < (n : Int) := by omega
        have n1 : ((n : Int) == 0) = false := by rw [beq_eq_false_iff_ne]; omega
        have kl : i % n < n := Nat.mod_lt _ (by omega)
        clear hkc hkn hn0
        obtain ⟨q, hq⟩ : ∃ q, i % n = q := ⟨_, rfl⟩
        rw [hq] at kc ke kl
        clear hq
        by_cases h1 : how = 1
        · subst h1
          have FC := Lib.hid (show (x).fits from FX.out)
          rcases (show x.file = 0 ∨ x.file = 1 by omega) with hf | hf
          · have xf : (x.file : Int) = 0 := by omega
            have E0 := Lib.hid (show crashL ks (D.waits.take (i + 1)) 0 0 D.l0 = (x).done (crashL ks (D.waits.take i) 0 0 D.l0) by rw [C0.out]; exact crash1_one hf)
            have E1 := Lib.hid (show crashL ks (D.waits.take (i + 1)) 0 1 D.l1 = crashL ks (D.waits.take i) 0 1 D.l1 by rw [C1.out]; exact crash1_far (by omega))
            have T2 : Hid (∀ (w1 : World), w1.ownsRow 0 5 1 u0 (crashL ks (D.waits.take i) 0 0 D.l0).length (u8s (crashL ks (D.waits.take i) 0 0 D.l0)) → Calls Try.prog 76 #[.agg #[.int .i64 0, .int .i64 x.at_, .string x.text, .bool x.cut], u0] w1 (RowPost w1 5 1 u0 ((x).done (crashL ks (D.waits.take i) 0 0 D.l0)).length (u8s ((x).done (crashL ks (D.waits.take i) 0 0 D.l0))))) := fun w1 h1 => by
              have h2 := disk_done (x) u0 _ w1 h1 L0.out FC.out
              unfold chVal at h2
              rw [show ((x).file : Int) = 0 from xf, show (x).at_ = x.at_ from rfl, show (x).text = x.text from rfl, show (x).cut = x.cut from rfl] at h2
              exact h2
            clear C0 C1 hf hxf
            go_upto_region 9 with fail
            have HOx := Lib.hid (HOr.out.alloc (.cells #[.int .i64 0, .int .i64 x.at_, .string x.text, .bool x.cut] 112))
            have HXx := Lib.hid (Has.new wr 112 #[.int .i64 0, .int .i64 x.at_, .string x.text, .bool x.cut])
            have HTx := Lib.hid (HT.out.trans (Turn.below _ (below_mk wr (.cells #[.int .i64 0, .int .i64 x.at_, .string x.text, .bool x.cut] 112))))
            clear c0 c1 c2 c3 c4 c5 c6 c7 cz d0 d1 d2 d3
            generalize wr.alloc (.cells #[.int .i64 0, .int .i64 x.at_, .string x.text, .bool x.cut] 112) = W at *
            obtain ⟨x0, x1, x2, x3⟩ := HXx.out.cells4
            have xz := HXx.out.lt
            have cz := HOx.out.has.lt
            refine wp_region_cls (W) (by kernel_rfl) (by kernel_rfl) (Cls.start _) ?_
            repeat
              first
                | go_big_quiet_skip
                | (go_big_quiet_want; (first | go_big_quiet_op | go_simp); first | go_big_quiet_on | (apply Exists.intro; refine ⟨fun w' hw' => ?_, ?_⟩; (· (first | (with_reducible exact rfl) | (fail) | (obtain ⟨hc, hf⟩ := hw'.facts; go_simp; first | done | (with_reducible exact rfl) | (with_reducible exact ⟨rfl, rfl⟩)))); go_big_quiet_on))
            refine wpQuiet_nil ?_
            intro wq hq
            have HQ := Lib.hid hq
            have HO2 := Lib.hid (HOx.out.below hq)
            have HX3 := Lib.hid (HXx.out.belowS hq)
            clear hq x0 x1 x2 x3 xz cz
            obtain ⟨x0, x1, x2, x3⟩ := HX3.out.cells4
            have xz := HX3.out.lt
            obtain ⟨c0, c1, c2, c3, c4, c5, c6, c7⟩ := HO2.out.has.cells8
            have cf := HO2.out.has.frozen
            have cz := HO2.out.has.lt
            go_wp2_with fail
            go_region_law
              (first | (go_simp; go_at_call 76; (with_reducible refine (T2.out _ ((HO2.out.own 0 rfl).drew)).mono ?_); rintro e w5 ⟨v', rfl, hown5, hr5⟩; obtain ⟨A5, k5, rfl, _⟩ := own_form hown5; have HR := Lib.hid ((HO2.out.below (Below.refl _ _).drew).row 0 (r := rowB u0 (crashL ks (D.waits.take i) 0 0 D.l0)) (r' := rowB _ ((x).done (crashL ks (D.waits.take i) 0 0 D.l0))) rfl hr5.grown hown5 hr5.at_); have gf5 := HR.out.1.has.frozen; have gc5 := HR.out.1.has.cells8; obtain ⟨g0, g1, g2, g3, g4, g5, g6, g7⟩ := gc5; have gz5 := HR.out.1.has.lt))
            all_goals
              go_wp2_with fail
              go_roundw
              case rel => exact ⟨i + 1, _, _, by omega, by simp, by rw [E0.out, E1.out]; exact HR.out.1.set 0 _, by rw [E0.out, E1.out]; exact HTx.out.trans ((Turn.below _ HQ.out).trans ((Turn.below _ (Below.refl _ _).drew).trans (HR.out.2.trans (Turn.set _ _ 0 _ _))))⟩
              case measure => simp [intOf]; omega
          · have xf : (x.file : Int) = 1 := by omega
            have E0 := Lib.hid (show crashL ks (D.waits.take (i + 1)) 0 0 D.l0 = crashL ks (D.waits.take i) 0 0 D.l0 by rw [C0.out]; exact crash1_far (by omega))
            have E1 := Lib.hid (show crashL ks (D.waits.take (i + 1)) 0 1 D.l1 = (x).done (crashL ks (D.waits.take i) 0 1 D.l1) by rw [C1.out]; exact crash1_one hf)
            have T2 : Hid (∀ (w1 : World), w1.ownsRow 0 5 1 u2 (crashL ks (D.waits.take i) 0 1 D.l1).length (u8s (crashL ks (D.waits.take i) 0 1 D.l1)) → Calls Try.prog 76 #[.agg #[.int .i64 1, .int .i64 x.at_, .string x.text, .bool x.cut], u2] w1 (RowPost w1 5 1 u2 ((x).done (crashL ks (D.waits.take i) 0 1 D.l1)).length (u8s ((x).done (crashL ks (D.waits.take i) 0 1 D.l1))))) := fun w1 h1 => by
              have h2 := disk_done (x) u2 _ w1 h1 L1.out FC.out
              unfold chVal at h2
              rw [show ((x).file : Int) = 1 from xf, show (x).at_ = x.at_ from rfl, show (x).text = x.text from rfl, show (x).cut = x.cut from rfl] at h2
              exact h2
            clear C0 C1 hf hxf
            go_upto_region 9 with fail
            have HOx := Lib.hid (HOr.out.alloc (.cells #[.int .i64 1, .int .i64 x.at_, .string x.text, .bool x.cut] 112))
            have HXx := Lib.hid (Has.new wr 112 #[.int .i64 1, .int .i64 x.at_, .string x.text, .bool x.cut])
            have HTx := Lib.hid (HT.out.trans (Turn.below _ (below_mk wr (.cells #[.int .i64 1, .int .i64 x.at_, .string x.text, .bool x.cut] 112))))
            clear c0 c1 c2 c3 c4 c5 c6 c7 cz d0 d1 d2 d3
            generalize wr.alloc (.cells #[.int .i64 1, .int .i64 x.at_, .string x.text, .bool x.cut] 112) = W at *
            obtain ⟨x0, x1, x2, x3⟩ := HXx.out.cells4
            have xz := HXx.out.lt
            have cz := HOx.out.has.lt
            refine wp_region_cls (W) (by kernel_rfl) (by kernel_rfl) (Cls.start _) ?_
            repeat
              first
                | go_big_quiet_skip
                | (go_big_quiet_want; (first | go_big_quiet_op | go_simp); first | go_big_quiet_on | (apply Exists.intro; refine ⟨fun w' hw' => ?_, ?_⟩; (· (first | (with_reducible exact rfl) | (fail) | (obtain ⟨hc, hf⟩ := hw'.facts; go_simp; first | done | (with_reducible exact rfl) | (with_reducible exact ⟨rfl, rfl⟩)))); go_big_quiet_on))
            refine wpQuiet_nil ?_
            intro wq hq
            have HQ := Lib.hid hq
            have HO2 := Lib.hid (HOx.out.below hq)
            have HX3 := Lib.hid (HXx.out.belowS hq)
            clear hq x0 x1 x2 x3 xz cz
            obtain ⟨x0, x1, x2, x3⟩ := HX3.out.cells4
            have xz := HX3.out.lt
            obtain ⟨c0, c1, c2, c3, c4, c5, c6, c7⟩ := HO2.out.has.cells8
            have cf := HO2.out.has.frozen
            have cz := HO2.out.has.lt
            go_wp2_with fail
            go_region_law
              (first | (go_simp; go_at_call 76; (with_reducible refine (T2.out _ ((HO2.out.own 2 rfl).drew)).mono ?_); rintro e w5 ⟨v', rfl, hown5, hr5⟩; obtain ⟨A5, k5, rfl, _⟩ := own_form hown5; have HR := Lib.hid ((HO2.out.below (Below.refl _ _).drew).row 2 (r := rowB u2 (crashL ks (D.waits.take i) 0 1 D.l1)) (r' := rowB _ ((x).done (crashL ks (D.waits.take i) 0 1 D.l1))) rfl hr5.grown hown5 hr5.at_); have gf5 := HR.out.1.has.frozen; have gc5 := HR.out.1.has.cells8; obtain ⟨g0, g1, g2, g3, g4, g5, g6, g7⟩ := gc5; have gz5 := HR.out.1.has.lt))
            all_goals
              go_wp2_with fail
              go_roundw
              case rel => exact ⟨i + 1, _, _, by omega, by simp, by rw [E0.out, E1.out]; exact HR.out.1.set 2 _, by rw [E0.out, E1.out]; exact HTx.out.trans ((Turn.below _ HQ.out).trans ((Turn.below _ (Below.refl _ _).drew).trans (HR.out.2.trans (Turn.set _ _ 2 _ _))))⟩
              case measure => simp [intOf]; omega

        · by_cases h2 : how = 2
          · subst h2
            cases hcut : x.cut with
            | true =>
              have HC := Lib.hid (half_cut hcut)
              rw [hcut] at d3
              have FC := Lib.hid (show (x).fits from FX.out)
              rcases (show x.file = 0 ∨ x.file = 1 by omega) with hf | hf
              · have xf : (x.file : Int) = 0 := by omega
                have E0 := Lib.hid (show crashL ks (D.waits.take (i + 1)) 0 0 D.l0 = (x).done (crashL ks (D.waits.take i) 0 0 D.l0) by rw [C0.out]; exact (crash1_two hf).trans (by rw [HC.out]))
                have E1 := Lib.hid (show crashL ks (D.waits.take (i + 1)) 0 1 D.l1 = crashL ks (D.waits.take i) 0 1 D.l1 by rw [C1.out]; exact crash1_far (by omega))
                have T2 : Hid (∀ (w1 : World), w1.ownsRow 0 5 1 u0 (crashL ks (D.waits.take i) 0 0 D.l0).length (u8s (crashL ks (D.waits.take i) 0 0 D.l0)) → Calls Try.prog 76 #[.agg #[.int .i64 0, .int .i64 x.at_, .string x.text, .bool true], u0] w1 (RowPost w1 5 1 u0 ((x).done (crashL ks (D.waits.take i) 0 0 D.l0)).length (u8s ((x).done (crashL ks (D.waits.take i) 0 0 D.l0))))) := fun w1 h1 => by
                  have h2 := disk_done (x) u0 _ w1 h1 L0.out FC.out
                  unfold chVal at h2
                  rw [show ((x).file : Int) = 0 from xf, show (x).at_ = x.at_ from rfl, show (x).text = x.text from rfl, hcut] at h2
                  exact h2
                clear C0 C1 hf hxf
                go_upto_region 9 with fail
                have HOx := Lib.hid (HOr.out.alloc (.cells #[.int .i64 0, .int .i64 x.at_, .string x.text, .bool true] 112))
                have HXx := Lib.hid (Has.new wr 112 #[.int .i64 0, .int .i64 x.at_, .string x.text, .bool true])
                have HTx := Lib.hid (HT.out.trans (Turn.below _ (below_mk wr (.cells #[.int .i64 0, .int .i64 x.at_, .string x.text, .bool true] 112))))
                clear c0 c1 c2 c3 c4 c5 c6 c7 cz d0 d1 d2 d3
                generalize wr.alloc (.cells #[.int .i64 0, .int .i64 x.at_, .string x.text, .bool true] 112) = W at *
                obtain ⟨x0, x1, x2, x3⟩ := HXx.out.cells4
                have xz := HXx.out.lt
                have cz := HOx.out.has.lt
                refine wp_region_cls (W) (by kernel_rfl) (by kernel_rfl) (Cls.start _) ?_
                repeat
                  first
                    | go_big_quiet_skip
                    | (go_big_quiet_want; (first | go_big_quiet_op | go_simp); first | go_big_quiet_on | (apply Exists.intro; refine ⟨fun w' hw' => ?_, ?_⟩; (· (first | (with_reducible exact rfl) | (fail) | (obtain ⟨hc, hf⟩ := hw'.facts; go_simp; first | done | (with_reducible exact rfl) | (with_reducible exact ⟨rfl, rfl⟩)))); go_big_quiet_on))
                refine wpQuiet_nil ?_
                intro wq hq
                have HQ := Lib.hid hq
                have HO2 := Lib.hid (HOx.out.below hq)
                have HX3 := Lib.hid (HXx.out.belowS hq)
                clear hq x0 x1 x2 x3 xz cz
                obtain ⟨x0, x1, x2, x3⟩ := HX3.out.cells4
                have xz := HX3.out.lt
                obtain ⟨c0, c1, c2, c3, c4, c5, c6, c7⟩ := HO2.out.has.cells8
                have cf := HO2.out.has.frozen
                have cz := HO2.out.has.lt
                go_wp2_with fail
                go_region_law
                  (first | (go_simp; go_at_call 76; (with_reducible refine (T2.out _ ((HO2.out.own 0 rfl).drew)).mono ?_); rintro e w5 ⟨v', rfl, hown5, hr5⟩; obtain ⟨A5, k5, rfl, _⟩ := own_form hown5; have HR := Lib.hid ((HO2.out.below (Below.refl _ _).drew).row 0 (r := rowB u0 (crashL ks (D.waits.take i) 0 0 D.l0)) (r' := rowB _ ((x).done (crashL ks (D.waits.take i) 0 0 D.l0))) rfl hr5.grown hown5 hr5.at_); have gf5 := HR.out.1.has.frozen; have gc5 := HR.out.1.has.cells8; obtain ⟨g0, g1, g2, g3, g4, g5, g6, g7⟩ := gc5; have gz5 := HR.out.1.has.lt))
                all_goals
                  go_wp2_with fail
                  go_roundw
                  case rel => exact ⟨i + 1, _, _, by omega, by simp, by rw [E0.out, E1.out]; exact HR.out.1.set 0 _, by rw [E0.out, E1.out]; exact HTx.out.trans ((Turn.below _ HQ.out).trans ((Turn.below _ (Below.refl _ _).drew).trans (HR.out.2.trans (Turn.set _ _ 0 _ _))))⟩
                  case measure => simp [intOf]; omega
              · have xf : (x.file : Int) = 1 := by omega
                have E0 := Lib.hid (show crashL ks (D.waits.take (i + 1)) 0 0 D.l0 = crashL ks (D.waits.take i) 0 0 D.l0 by rw [C0.out]; exact crash1_far (by omega))
                have E1 := Lib.hid (show crashL ks (D.waits.take (i + 1)) 0 1 D.l1 = (x).done (crashL ks (D.waits.take i) 0 1 D.l1) by rw [C1.out]; exact (crash1_two hf).trans (by rw [HC.out]))
                have T2 : Hid (∀ (w1 : World), w1.ownsRow 0 5 1 u2 (crashL ks (D.waits.take i) 0 1 D.l1).length (u8s (crashL ks (D.waits.take i) 0 1 D.l1)) → Calls Try.prog 76 #[.agg #[.int .i64 1, .int .i64 x.at_, .string x.text, .bool true], u2] w1 (RowPost w1 5 1 u2 ((x).done (crashL ks (D.waits.take i) 0 1 D.l1)).length (u8s ((x).done (crashL ks (D.waits.take i) 0 1 D.l1))))) := fun w1 h1 => by
                  have h2 := disk_done (x) u2 _ w1 h1 L1.out FC.out
                  unfold chVal at h2
                  rw [show ((x).file : Int) = 1 from xf, show (x).at_ = x.at_ from rfl, show (x).text = x.text from rfl, hcut] at h2
                  exact h2
                clear C0 C1 hf hxf
                go_upto_region 9 with fail
                have HOx := Lib.hid (HOr.out.alloc (.cells #[.int .i64 1, .int .i64 x.at_, .string x.text, .bool true] 112))
                have HXx := Lib.hid (Has.new wr 112 #[.int .i64 1, .int .i64 x.at_, .string x.text, .bool true])
                have HTx := Lib.hid (HT.out.trans (Turn.below _ (below_mk wr (.cells #[.int .i64 1, .int .i64 x.at_, .string x.text, .bool true] 112))))
                clear c0 c1 c2 c3 c4 c5 c6 c7 cz d0 d1 d2 d3
                generalize wr.alloc (.cells #[.int .i64 1, .int .i64 x.at_, .string x.text, .bool true] 112) = W at *
                obtain ⟨x0, x1, x2, x3⟩ := HXx.out.cells4
                have xz := HXx.out.lt
                have cz := HOx.out.has.lt
                refine wp_region_cls (W) (by kernel_rfl) (by kernel_rfl) (Cls.start _) ?_
                repeat
                  first
                    | go_big_quiet_skip
                    | (go_big_quiet_want; (first | go_big_quiet_op | go_simp); first | go_big_quiet_on | (apply Exists.intro; refine ⟨fun w' hw' => ?_, ?_⟩; (· (first | (with_reducible exact rfl) | (fail) | (obtain ⟨hc, hf⟩ := hw'.facts; go_simp; first | done | (with_reducible exact rfl) | (with_reducible exact ⟨rfl, rfl⟩)))); go_big_quiet_on))
                refine wpQuiet_nil ?_
                intro wq hq
                have HQ := Lib.hid hq
                have HO2 := Lib.hid (HOx.out.below hq)
                have HX3 := Lib.hid (HXx.out.belowS hq)
                clear hq x0 x1 x2 x3 xz cz
                obtain ⟨x0, x1, x2, x3⟩ := HX3.out.cells4
                have xz := HX3.out.lt
                obtain ⟨c0, c1, c2, c3, c4, c5, c6, c7⟩ := HO2.out.has.cells8
                have cf := HO2.out.has.frozen
                have cz := HO2.out.has.lt
                go_wp2_with fail
                go_region_law
                  (first | (go_simp; go_at_call 76; (with_reducible refine (T2.out _ ((HO2.out.own 2 rfl).drew)).mono ?_); rintro e w5 ⟨v', rfl, hown5, hr5⟩; obtain ⟨A5, k5, rfl, _⟩ := own_form hown5; have HR := Lib.hid ((HO2.out.below (Below.refl _ _).drew).row 2 (r := rowB u2 (crashL ks (D.waits.take i) 0 1 D.l1)) (r' := rowB _ ((x).done (crashL ks (D.waits.take i) 0 1 D.l1))) rfl hr5.grown hown5 hr5.at_); have gf5 := HR.out.1.has.frozen; have gc5 := HR.out.1.has.cells8; obtain ⟨g0, g1, g2, g3, g4, g5, g6, g7⟩ := gc5; have gz5 := HR.out.1.has.lt))
                all_goals
                  go_wp2_with fail
                  go_roundw
                  case rel => exact ⟨i + 1, _, _, by omega, by simp, by rw [E0.out, E1.out]; exact HR.out.1.set 2 _, by rw [E0.out, E1.out]; exact HTx.out.trans ((Turn.below _ HQ.out).trans ((Turn.below _ (Below.refl _ _).drew).trans (HR.out.2.trans (Turn.set _ _ 2 _ _))))⟩
                  case measure => simp [intOf]; omega

            | false =>
              have HC := Lib.hid (half_text hcut)
              rw [hcut] at d3
              obtain ⟨tx, htx⟩ : ∃ t, x.text.extract 0 (x.text.size / 2) = t := ⟨_, rfl⟩
              rw [htx] at HC
              have hsz := FX.out.2.2.1
              have hs1 : x.text.size / 2 ≤ x.text.size := by omega
              have hh := Lib.hid (half_fits FX.out)
              rw [HC.out] at hh
              have FC := Lib.hid (show ({ x with text := tx, cut := false } : Ch).fits from hh.out)
              rcases (show x.file = 0 ∨ x.file = 1 by omega) with hf | hf
              · have xf : (x.file : Int) = 0 := by omega
                have E0 := Lib.hid (show crashL ks (D.waits.take (i + 1)) 0 0 D.l0 = ({ x with text := tx, cut := false } : Ch).done (crashL ks (D.waits.take i) 0 0 D.l0) by rw [C0.out]; exact (crash1_two hf).trans (by rw [HC.out]))
                have E1 := Lib.hid (show crashL ks (D.waits.take (i + 1)) 0 1 D.l1 = crashL ks (D.waits.take i) 0 1 D.l1 by rw [C1.out]; exact crash1_far (by omega))
                have T2 : Hid (∀ (w1 : World), w1.ownsRow 0 5 1 u0 (crashL ks (D.waits.take i) 0 0 D.l0).length (u8s (crashL ks (D.waits.take i) 0 0 D.l0)) → Calls Try.prog 76 #[.agg #[.int .i64 0, .int .i64 x.at_, .string tx, .bool false], u0] w1 (RowPost w1 5 1 u0 (({ x with text := tx, cut := false } : Ch).done (crashL ks (D.waits.take i) 0 0 D.l0)).length (u8s (({ x with text := tx, cut := false } : Ch).done (crashL ks (D.waits.take i) 0 0 D.l0))))) := fun w1 h1 => by
                  have h2 := disk_done ({ x with text := tx, cut := false } : Ch) u0 _ w1 h1 L0.out FC.out
                  unfold chVal at h2
                  rw [show (({ x with text := tx, cut := false } : Ch).file : Int) = 0 from xf, show ({ x with text := tx, cut := false } : Ch).at_ = x.at_ from rfl, show ({ x with text := tx, cut := false } : Ch).text = tx from rfl, show ({ x with text := tx, cut := false } : Ch).cut = false from rfl] at h2
                  exact h2
                clear C0 C1 hf hxf HC hh hcut
                go_upto_region 9 with fail
                have HOx := Lib.hid (HOr.out.alloc (.cells #[.int .i64 0, .int .i64 x.at_, .string tx, .bool false] 112))
                have HXx := Lib.hid (Has.new wr 112 #[.int .i64 0, .int .i64 x.at_, .string tx, .bool false])
                have HTx := Lib.hid (HT.out.trans (Turn.below _ (below_mk wr (.cells #[.int .i64 0, .int .i64 x.at_, .string tx, .bool false] 112))))
                clear c0 c1 c2 c3 c4 c5 c6 c7 cz d0 d1 d2 d3
                generalize wr.alloc (.cells #[.int .i64 0, .int .i64 x.at_, .string tx, .bool false] 112) = W at *
                obtain ⟨x0, x1, x2, x3⟩ := HXx.out.cells4
                have xz := HXx.out.lt
                have cz := HOx.out.has.lt
                refine wp_region_cls (W) (by kernel_rfl) (by kernel_rfl) (Cls.start _) ?_
                repeat
                  first
                    | go_big_quiet_skip
                    | (go_big_quiet_want; (first | go_big_quiet_op | go_simp); first | go_big_quiet_on | (apply Exists.intro; refine ⟨fun w' hw' => ?_, ?_⟩; (· (first | (with_reducible exact rfl) | (fail) | (obtain ⟨hc, hf⟩ := hw'.facts; go_simp; first | done | (with_reducible exact rfl) | (with_reducible exact ⟨rfl, rfl⟩)))); go_big_quiet_on))
                refine wpQuiet_nil ?_
                intro wq hq
                have HQ := Lib.hid hq
                have HO2 := Lib.hid (HOx.out.below hq)
                have HX3 := Lib.hid (HXx.out.belowS hq)
                clear hq x0 x1 x2 x3 xz cz
                obtain ⟨x0, x1, x2, x3⟩ := HX3.out.cells4
                have xz := HX3.out.lt
                obtain ⟨c0, c1, c2, c3, c4, c5, c6, c7⟩ := HO2.out.has.cells8
                have cf := HO2.out.has.frozen
                have cz := HO2.out.has.lt
                go_wp2_with fail
                go_region_law
                  (first | (go_simp; go_at_call 76; (with_reducible refine (T2.out _ ((HO2.out.own 0 rfl).drew)).mono ?_); rintro e w5 ⟨v', rfl, hown5, hr5⟩; obtain ⟨A5, k5, rfl, _⟩ := own_form hown5; have HR := Lib.hid ((HO2.out.below (Below.refl _ _).drew).row 0 (r := rowB u0 (crashL ks (D.waits.take i) 0 0 D.l0)) (r' := rowB _ (({ x with text := tx, cut := false } : Ch).done (crashL ks (D.waits.take i) 0 0 D.l0))) rfl hr5.grown hown5 hr5.at_); have gf5 := HR.out.1.has.frozen; have gc5 := HR.out.1.has.cells8; obtain ⟨g0, g1, g2, g3, g4, g5, g6, g7⟩ := gc5; have gz5 := HR.out.1.has.lt))
                all_goals
                  go_wp2_with fail
                  go_roundw
                  case rel => exact ⟨i + 1, _, _, by omega, by simp, by rw [E0.out, E1.out]; exact HR.out.1.set 0 _, by rw [E0.out, E1.out]; exact HTx.out.trans ((Turn.below _ HQ.out).trans ((Turn.below _ (Below.refl _ _).drew).trans (HR.out.2.trans (Turn.set _ _ 0 _ _))))⟩
                  case measure => simp [intOf]; omega
              · have xf : (x.file : Int) = 1 := by omega
                have E0 := Lib.hid (show crashL ks (D.waits.take (i + 1)) 0 0 D.l0 = crashL ks (D.waits.take i) 0 0 D.l0 by rw [C0.out]; exact crash1_far (by omega))
                have E1 := Lib.hid (show crashL ks (D.waits.take (i + 1)) 0 1 D.l1 = ({ x with text := tx, cut := false } : Ch).done (crashL ks (D.waits.take i) 0 1 D.l1) by rw [C1.out]; exact (crash1_two hf).trans (by rw [HC.out]))
                have T2 : Hid (∀ (w1 : World), w1.ownsRow 0 5 1 u2 (crashL ks (D.waits.take i) 0 1 D.l1).length (u8s (crashL ks (D.waits.take i) 0 1 D.l1)) → Calls Try.prog 76 #[.agg #[.int .i64 1, .int .i64 x.at_, .string tx, .bool false], u2] w1 (RowPost w1 5 1 u2 (({ x with text := tx, cut := false } : Ch).done (crashL ks (D.waits.take i) 0 1 D.l1)).length (u8s (({ x with text := tx, cut := false } : Ch).done (crashL ks (D.waits.take i) 0 1 D.l1))))) := fun w1 h1 => by
                  have h2 := disk_done ({ x with text := tx, cut := false } : Ch) u2 _ w1 h1 L1.out FC.out
                  unfold chVal at h2
                  rw [show (({ x with text := tx, cut := false } : Ch).file : Int) = 1 from xf, show ({ x with text := tx, cut := false } : Ch).at_ = x.at_ from rfl, show ({ x with text := tx, cut := false } : Ch).text = tx from rfl, show ({ x with text := tx, cut := false } : Ch).cut = false from rfl] at h2
                  exact h2
                clear C0 C1 hf hxf HC hh hcut
                go_upto_region 9 with fail
                have HOx := Lib.hid (HOr.out.alloc (.cells #[.int .i64 1, .int .i64 x.at_, .string tx, .bool false] 112))
                have HXx := Lib.hid (Has.new wr 112 #[.int .i64 1, .int .i64 x.at_, .string tx, .bool false])
                have HTx := Lib.hid (HT.out.trans (Turn.below _ (below_mk wr (.cells #[.int .i64 1, .int .i64 x.at_, .string tx, .bool false] 112))))
                clear c0 c1 c2 c3 c4 c5 c6 c7 cz d0 d1 d2 d3
                generalize wr.alloc (.cells #[.int .i64 1, .int .i64 x.at_, .string tx, .bool false] 112) = W at *
                obtain ⟨x0, x1, x2, x3⟩ := HXx.out.cells4
                have xz := HXx.out.lt
                have cz := HOx.out.has.lt
                refine wp_region_cls (W) (by kernel_rfl) (by kernel_rfl) (Cls.start _) ?_
                repeat
                  first
                    | go_big_quiet_skip
                    | (go_big_quiet_want; (first | go_big_quiet_op | go_simp); first | go_big_quiet_on | (apply Exists.intro; refine ⟨fun w' hw' => ?_, ?_⟩; (· (first | (with_reducible exact rfl) | (fail) | (obtain ⟨hc, hf⟩ := hw'.facts; go_simp; first | done | (with_reducible exact rfl) | (with_reducible exact ⟨rfl, rfl⟩)))); go_big_quiet_on))
                refine wpQuiet_nil ?_
                intro wq hq
                have HQ := Lib.hid hq
                have HO2 := Lib.hid (HOx.out.below hq)
                have HX3 := Lib.hid (HXx.out.belowS hq)
                clear hq x0 x1 x2 x3 xz cz
                obtain ⟨x0, x1, x2, x3⟩ := HX3.out.cells4
                have xz := HX3.out.lt
                obtain ⟨c0, c1, c2, c3, c4, c5, c6, c7⟩ := HO2.out.has.cells8
                have cf := HO2.out.has.frozen
                have cz := HO2.out.has.lt
                go_wp2_with fail
                go_region_law
                  (first | (go_simp; go_at_call 76; (with_reducible refine (T2.out _ ((HO2.out.own 2 rfl).drew)).mono ?_); rintro e w5 ⟨v', rfl, hown5, hr5⟩; obtain ⟨A5, k5, rfl, _⟩ := own_form hown5; have HR := Lib.hid ((HO2.out.below (Below.refl _ _).drew).row 2 (r := rowB u2 (crashL ks (D.waits.take i) 0 1 D.l1)) (r' := rowB _ (({ x with text := tx, cut := false } : Ch).done (crashL ks (D.waits.take i) 0 1 D.l1))) rfl hr5.grown hown5 hr5.at_); have gf5 := HR.out.1.has.frozen; have gc5 := HR.out.1.has.cells8; obtain ⟨g0, g1, g2, g3, g4, g5, g6, g7⟩ := gc5; have gz5 := HR.out.1.has.lt))
                all_goals
                  go_wp2_with fail
                  go_roundw
                  case rel => exact ⟨i + 1, _, _, by omega, by simp, by rw [E0.out, E1.out]; exact HR.out.1.set 2 _, by rw [E0.out, E1.out]; exact HTx.out.trans ((Turn.below _ HQ.out).trans ((Turn.below _ (Below.refl _ _).drew).trans (HR.out.2.trans (Turn.set _ _ 2 _ _))))⟩
                  case measure => simp [intOf]; omega

          · have hh1 : (how == 1) = false := by rw [beq_eq_false_iff_ne]; exact h1
            have hh2 : (how == 2) = false := by rw [beq_eq_false_iff_ne]; exact h2
            have E0 := Lib.hid (show crashL ks (D.waits.take (i + 1)) 0 0 D.l0 = crashL ks (D.waits.take i) 0 0 D.l0 by rw [C0.out]; exact crash1_no (by omega) (by omega))
            have E1 := Lib.hid (show crashL ks (D.waits.take (i + 1)) 0 1 D.l1 = crashL ks (D.waits.take i) 0 1 D.l1 by rw [C1.out]; exact crash1_no (by omega) (by omega))
            clear C0 C1
            go_wp2_with fail
            go_roundw
            case rel => exact ⟨i + 1, _, _, by omega, by simp, by rw [E0.out, E1.out]; exact HOr.out.alloc _, by rw [E0.out, E1.out]; exact HT.out.trans (Turn.below _ (below_mk _ _))⟩
            case measure => simp [intOf]; omega
    · obtain rfl : i = D.waits.length := by omega
      have E0 := Lib.hid (show crashL ks (D.waits.take D.waits.length) 0 0 D.l0 = (D.crash ks).l0 by rw [List.take_length]; rfl)
      have E1 := Lib.hid (show crashL ks (D.waits.take D.waits.length) 0 1 D.l1 = (D.crash ks).l1 by rw [List.take_length]; rfl)
      have OK2 := Lib.hid (Dk.crash_ok OK.out ks)
      have EQ := Lib.hid (show (D.crash ks).waits = [] ∧ (D.crash ks).fails = -1 ∧ (D.crash ks).down = false ∧ (D.crash ks).count = D.count ∧ (D.crash ks).seen 0 = (D.crash ks).l0 ∧ (D.crash ks).seen 1 = (D.crash ks).l1 from ⟨rfl, rfl, rfl, rfl, rfl, rfl⟩)
      rw [E0.out, E1.out] at HOr HT
      obtain ⟨E, hE⟩ : ∃ E, D.crash ks = E := ⟨_, rfl⟩
      rw [hE] at HOr HT OK2 EQ
      have HE := Lib.hid hE
      clear E0 E1 hE HKr
      go_wp2_with fail
      go_loopw [67] (fun v67 wr' => ∃ (j : Nat) (u0 u1 u2 u3 : Value), j ≤ 2 ∧ v67 = .int .i64 j ∧
        Ob wr' g 87 (dCells D.fails D.down D.count u0 u1 u2 u3 (.slice A4 D.waits.length k4)) (dRows E.l0 (if 0 < j then E.l0 else D.seen 0) E.l1 (if 1 < j then E.l1 else D.seen 1) D.waits u0 u1 u2 u3 (.slice A4 D.waits.length k4)) ∧
        Turn (blks g (dRows D.l0 (D.seen 0) D.l1 (D.seen 1) D.waits v0 v1 v2 v3 (.slice A4 D.waits.length k4))) (blks g (dRows E.l0 (if 0 < j then E.l0 else D.seen 0) E.l1 (if 1 < j then E.l1 else D.seen 1) D.waits u0 u1 u2 u3 (.slice A4 D.waits.length k4))) w wr') (fun v67 _ => 2 - (intOf v67).toNat)
      case atStart => exact ⟨0, u0, v1, u2, v3, by omega, rfl, HOr.out, HT.out⟩
      case round =>
        clear c0 c1 c2 c3 c4 c5 c6 c7 cz HOr HT
        obtain ⟨j, u0, u1, u2, u3, hj, rfl, ho, ht⟩ := hrel
        have HOr := Lib.hid ho
        have HT := Lib.hid ht
        obtain ⟨c0, c1, c2, c3, c4, c5, c6, c7⟩ := ho.has.cells8
        have cf := ho.has.frozen
        have cz := ho.has.lt
        have L0 := OK2.out.l0
        have L1 := OK2.out.l1
        clear ho ht
        rcases (show j = 0 ∨ j = 1 ∨ j = 2 by omega) with rfl | rfl | rfl
        · have HO2 := Lib.hid (show Ob wr g 87 (dCells D.fails D.down D.count u0 u1 u2 u3 (.slice A4 D.waits.length k4)) (dRows E.l0 (D.seen 0) E.l1 (D.seen 1) D.waits u0 u1 u2 u3 (.slice A4 D.waits.length k4)) from HOr.out)
          have HT2 := Lib.hid (show Turn (blks g (dRows D.l0 (D.seen 0) D.l1 (D.seen 1) D.waits v0 v1 v2 v3 (.slice A4 D.waits.length k4))) (blks g (dRows E.l0 (D.seen 0) E.l1 (D.seen 1) D.waits u0 u1 u2 u3 (.slice A4 D.waits.length k4))) w wr from HT.out)
          obtain ⟨As, cs, hvs, _, hbs⟩ := BS.of_own (show wr.ownsRow 0 5 1 u0 E.l0.length (u8s E.l0) from HO2.out.own 0 rfl)
          rw [hvs] at c0
          have HBS := Lib.hid hbs
          have G1 := Lib.hid (show 0 + E.l0.length ≤ maxLen by unfold maxLen; omega)
          have G2 := Lib.hid (show (0 + E.l0.length) * 1 ≤ 140737488355328 by omega)
          have HVS := Lib.hid hvs
          clear HOr HT hbs hvs
          go_wp2_with (at_builtin; go_loud (refine wpList_append_src _ rfl (.const (.slice none 0 0)) (.tmp 79) 81 81 rfl 0 5 i0 _ 1 1 Try.underlying81 hi hz0 hz1 hz2 zeroByte1 (by decide) (.slice none 0 0) 0 [] rfl (World.ownsRow_nil _ _ _ _) (.slice As E.l0.length cs) E.l0.length (u8s E.l0) rfl (HBS.out.src Try.underlying81) G1.out G2.out (Nat.zero_le _) ?_); intro vv w6 hown1 hg1 _ hat1; rw [Nat.zero_add] at hown1; obtain ⟨A5, k5, rfl, _⟩ := own_form hown1; have HR := Lib.hid (HO2.out.row 1 (r := rowB u1 (D.seen 0)) (r' := rowB (.slice A5 E.l0.length k5) E.l0) rfl (grownBy_weak hg1) hown1 (.inr (fresh_own hat1))); have gf5 := HR.out.1.has.frozen; have gc5 := HR.out.1.has.cells8; obtain ⟨g0, g1, g2, g3, g4, g5, g6, g7⟩ := gc5; have gz5 := HR.out.1.has.lt; clear hown1 hg1 hat1)
          go_roundw
          case rel => exact ⟨0 + 1, _, _, _, _, by omega, rfl, HR.out.1.set 1 _, HT2.out.trans (HR.out.2.trans (Turn.set _ _ 1 _ _))⟩
          case measure => simp [intOf]
        · have HO2 := Lib.hid (show Ob wr g 87 (dCells D.fails D.down D.count u0 u1 u2 u3 (.slice A4 D.waits.length k4)) (dRows E.l0 E.l0 E.l1 (D.seen 1) D.waits u0 u1 u2 u3 (.slice A4 D.waits.length k4)) from HOr.out)
          have HT2 := Lib.hid (show Turn (blks g (dRows D.l0 (D.seen 0) D.l1 (D.seen 1) D.waits v0 v1 v2 v3 (.slice A4 D.waits.length k4))) (blks g (dRows E.l0 E.l0 E.l1 (D.seen 1) D.waits u0 u1 u2 u3 (.slice A4 D.waits.length k4))) w wr from HT.out)
          obtain ⟨As, cs, hvs, _, hbs⟩ := BS.of_own (show wr.ownsRow 0 5 1 u2 E.l1.length (u8s E.l1) from HO2.out.own 2 rfl)
          rw [hvs] at c2
          have HBS := Lib.hid hbs
          have G1 := Lib.hid (show 0 + E.l1.length ≤ maxLen by unfold maxLen; omega)
          have G2 := Lib.hid (show (0 + E.l1.length) * 1 ≤ 140737488355328 by omega)
          have HVS := Lib.hid hvs
          clear HOr HT hbs hvs
          go_wp2_with (at_builtin; go_loud (refine wpList_append_src _ rfl (.const (.slice none 0 0)) (.tmp 79) 81 81 rfl 0 5 i0 _ 1 1 Try.underlying81 hi hz0 hz1 hz2 zeroByte1 (by decide) (.slice none 0 0) 0 [] rfl (World.ownsRow_nil _ _ _ _) (.slice As E.l1.length cs) E.l1.length (u8s E.l1) rfl (HBS.out.src Try.underlying81) G1.out G2.out (Nat.zero_le _) ?_); intro vv w6 hown1 hg1 _ hat1; rw [Nat.zero_add] at hown1; obtain ⟨A5, k5, rfl, _⟩ := own_form hown1; have HR := Lib.hid (HO2.out.row 3 (r := rowB u3 (D.seen 1)) (r' := rowB (.slice A5 E.l1.length k5) E.l1) rfl (grownBy_weak hg1) hown1 (.inr (fresh_own hat1))); have gf5 := HR.out.1.has.frozen; have gc5 := HR.out.1.has.cells8; obtain ⟨g0, g1, g2, g3, g4, g5, g6, g7⟩ := gc5; have gz5 := HR.out.1.has.lt; clear hown1 hg1 hat1)
          go_roundw
          case rel => exact ⟨1 + 1, _, _, _, _, by omega, rfl, HR.out.1.set 3 _, HT2.out.trans (HR.out.2.trans (Turn.set _ _ 3 _ _))⟩
          case measure => simp [intOf]
        · have HO2 := Lib.hid (show Ob wr g 87 (dCells D.fails D.down D.count u0 u1 u2 u3 (.slice A4 D.waits.length k4)) (dRows E.l0 E.l0 E.l1 E.l1 D.waits u0 u1 u2 u3 (.slice A4 D.waits.length k4)) from HOr.out)
          have HT2 := Lib.hid (show Turn (blks g (dRows D.l0 (D.seen 0) D.l1 (D.seen 1) D.waits v0 v1 v2 v3 (.slice A4 D.waits.length k4))) (blks g (dRows E.l0 E.l0 E.l1 E.l1 D.waits u0 u1 u2 u3 (.slice A4 D.waits.length k4))) w wr from HT.out)
          clear HOr HT
          go_wp2_with fail
          go_end0
          refine ⟨rfl, _, ?_, (((HT2.out.swap 4 (r' := rowC (.slice none 0 0) []) (fun k hk => by cases hk)).trans (Turn.set _ _ 4 _ _)).trans (Turn.set _ _ 5 _ _)).trans (Turn.set _ _ 6 _ _)⟩
          unfold DP
          rw [HE.out, EQ.out.1, EQ.out.2.1, EQ.out.2.2.1, EQ.out.2.2.2.1, EQ.out.2.2.2.2.1, EQ.out.2.2.2.2.2]
          exact ⟨_, _, _, _, _, rfl, (((HO2.out.swap 4 (r' := rowC (.slice none 0 0) []) rfl (World.ownsRow_nil _ _ _ _) (fun k hk => by cases hk)).set 4 _).set 5 _).set 6 _⟩

end Go.Proofs.Ytjihboddejaelaa
