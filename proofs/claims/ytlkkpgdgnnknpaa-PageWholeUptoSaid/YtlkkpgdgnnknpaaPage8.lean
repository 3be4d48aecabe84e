/-
  Open of the reference.
-/
import Derived.Test.YtlkkpgdgnnknpaaPage7
namespace Go.Proofs.Ytlkkpgdgnnknpaa
open Go.RowKit
open Go.BigFrame
set_option linter.unusedVariables false
attribute [local go_sem] OpGood goodUpon fillA Act.put

theorem openR_size {s : ByteArray} (h : s.size ≠ 1024) : openR s = none := by unfold openR; rw [if_pos h]
theorem openR_go {s : ByteArray} (h1 : s.size = 1024) : openR s = openN s (min (at16N s.data.toList 6) 506) := by
  unfold openR; rw [if_neg]; exact fun h => h h1
theorem min_at {n N : Nat} (h : min n 506 = N) (h1 : N < n) : N = 506 := by omega
theorem wrapN (x : Nat) (h : x < 9223372036854775808) : IntKind.i64.wrap (x : Int) = (x : Int) ∧ wrap64 (x : Int) = (x : Int) := ⟨IntWalk.i64_in _ ⟨by omega, by omega⟩, by unfold wrap64; omega⟩
theorem openN_stop {s : ByteArray} {N : Nat} {o : Option Pg} (h : o = openN s N) (h1 : readGo s N = none) : Hid (o = none) := by
  unfold openN at h
  rw [h1] at h
  exact Lib.hid h
theorem drop_take_two (l : List UInt8) (o : Nat) (h : o + 2 ≤ l.length) : (l.drop o).take 2 = [l.getD o 0, l.getD (o + 1) 0] := by
  apply List.ext_getElem?
  intro i
  rw [List.getElem?_take, List.getElem?_drop]
  match i with
  | 0 => simp [List.getD_eq_getElem?_getD, List.getElem?_eq_getElem (show o < l.length by omega)]
  | 1 => simp [List.getD_eq_getElem?_getD, List.getElem?_eq_getElem (show o + 1 < l.length by omega)]
  | i + 2 => rw [if_neg (by omega)]; rfl
theorem unK_two (s : ByteArray) (o p : Nat) (hp : p = o + 2) (h : p ≤ s.size) : unK (s.extract o p).data.toList = at16N s.data.toList o := by
  subst hp
  rw [Lib.extract_data, show o + 2 - o = 2 by omega, drop_take_two _ _ (by simpa using h)]
  simp [unK, at16N]
theorem unK_four (s : ByteArray) (o p : Nat) (hp : p = o + 4) (h : p ≤ s.size) : unK (s.extract o p).data.toList = at32N s.data.toList o := by
  subst hp
  rw [Lib.extract_data, show o + 4 - o = 2 + 2 by omega, List.take_add, List.drop_drop, drop_take_two _ _ (by simp; omega), drop_take_two _ _ (by simp; omega)]
  simp [unK, at16N, at32N]
  omega
theorem ref_two (s : ByteArray) (o p x : Nat) (hp : p = o + 2) (h : p ≤ s.size) (hx : at16N s.data.toList o = x) (w : World) : Calls Try.prog 75 #[.string (s.extract o p)] w fun e w' => e = .returned (.int .u64 x) ∧ w = w' := by
  have := ref_unbytes (s.extract o p) (by simp; omega) w
  rw [unK_two s o p hp h, hx] at this
  exact this
theorem ref_four (s : ByteArray) (o p x : Nat) (hp : p = o + 4) (h : p ≤ s.size) (hx : at32N s.data.toList o = x) (w : World) : Calls Try.prog 75 #[.string (s.extract o p)] w fun e w' => e = .returned (.int .u64 x) ∧ w = w' := by
  have := ref_unbytes (s.extract o p) (by simp; omega) w
  rw [unK_four s o p hp h, hx] at this
  exact this

set_option maxRecDepth 100000 in
set_option maxHeartbeats 6400000 in
theorem ref_Open (s : ByteArray) (hs : s.size ≤ 1048576) (w : World) : Calls Try.prog 32 #[.string s] w (OpenPost w (openR s) (.int .i64 4)) := by
  have HR0 := Lib.hid (Has.new w 40 #[.int .i64 0, .int .i64 0, .slice none 0 0])
  have HB0 := Lib.hid (below_mkP w (.cells #[.int .i64 0, .int .i64 0, .slice none 0 0] 40))
  by_cases h1 : s.size = 1024
  · have szs : ((s.size : Nat) : Int) = 1024 := by omega
    have H1 := Lib.hid h1
    have s4 : 4 < s.size := by omega
    have s4' : (4 : Int) < (s.size : Int) := by omega
    have i4 := getD_byte s 4 s4
    obtain ⟨k, hk⟩ : ∃ k, (s.data.toList.getD 4 0).toNat = k := ⟨_, rfl⟩
    have bk := byte_lt (s.data.toList.getD 4 0)
    rw [hk] at bk
    have HK := Lib.hid hk
    rw [i4] at hk
    have W4 : Hid (IntKind.i64.wrap (s[4].toNat : Int) = (k : Int) ∧ wrap64 (s[4].toNat : Int) = (k : Int)) := by rw [hk]; exact Lib.hid (wrapN k (by omega))
    clear i4
    obtain ⟨l, hl⟩ : ∃ l, at32N s.data.toList 8 = l := ⟨_, rfl⟩
    have ll := at32N_lt s.data.toList 8
    have T8 := Lib.hid (ref_four s 8 12 l rfl (by omega) hl)
    rw [hl] at ll
    have WL := Lib.hid (wrapN l (by omega))
    obtain ⟨n, hn⟩ : ∃ n, at16N s.data.toList 6 = n := ⟨_, rfl⟩
    have ln := at16N_lt s.data.toList 6
    have T6 := Lib.hid (ref_two s 6 8 n rfl (by omega) hn)
    rw [hn] at ln
    have WN := Lib.hid (wrapN n (by omega))
    have HL := Lib.hid hl
    obtain ⟨N, hN⟩ : ∃ N, min n 506 = N := ⟨_, rfl⟩
    have HGO : Hid (openR s = openN s N) := by
      have := openR_go H1.out
      rw [hn, hN] at this; exact Lib.hid this
    have N1 : N ≤ n := hN ▸ Nat.min_le_left _ _
    have N2 : N ≤ 506 := hN ▸ Nat.min_le_right _ _
    have N3 : Hid (N < n → N = 506) := Lib.hid (min_at hN)
    clear hl hn hk hN
    obtain ⟨w4, w4'⟩ := W4.out
    obtain ⟨wl, wl'⟩ := WL.out
    go_enter Try.func32, Try.ntmps32
    go_wp2_with fail
    refine wp_region_inv 9 (Cls ((w.alloc (.cells #[.int .i64 0, .int .i64 0, .slice none 0 0] 40)))) (prP [fun u _ => u = .string s, fun u _ => u = .int .u8 s[4].toNat, fun u _ => u = .int .i64 k, fun u _ => u = .string s, fun u _ => u = .string (s.extract 8 12), fun u _ => u = .int .u64 l, fun u _ => u = .int .i64 l, fun u _ => u = .agg #[.int .i64 k, .int .i64 l, .slice none 0 0], fun u w1 => ∃ g, u = .pointer (some ⟨g, 0, none⟩) ∧ Has w1 g 40 #[.int .i64 0, .int .i64 0, .slice none 0 0] ∧ w.heap.size + 1 ≤ g]) (by kernel_rfl) (by kernel_rfl) (by kernel_rfl) (fun _ _ hC hb => Cls.step hC hb) ?hst (Cls.start _) ?hops ?hend
    case hst => exact prP_stable _ ⟨stab_eq _, stab_eq _, stab_eq _, stab_eq _, stab_eq _, stab_eq _, stab_eq _, stab_eq _, fun u w1 w2 hb ⟨g, e, h, hg⟩ => ⟨g, e, h.belowS hb, hg⟩, trivial⟩
    case hops =>
      intro us wx hus hC
      obtain ⟨u0, u1, u2, u3, u4, u5, u6, u7, u8, rfl⟩ : ∃ u0 u1 u2 u3 u4 u5 u6 u7 u8, us = [u0, u1, u2, u3, u4, u5, u6, u7, u8] := by
        match us, hus with
        | [u0, u1, u2, u3, u4, u5, u6, u7, u8], _ => exact ⟨u0, u1, u2, u3, u4, u5, u6, u7, u8, rfl⟩
      clear hus
      simp only [fillA, Act.put, List.take_succ_cons, List.take_zero, List.setIfInBounds_toArray, List.set_cons_zero, List.set_cons_succ]
      refine ⟨fun h => ?_, fun h => ?_, fun h => ?_, fun h => ?_, fun h => ?_, fun h => ?_, fun h => ?_, fun h => ?_, fun h => ?_, trivial⟩
      · (clear h; refine good_plain rfl ?_; go_simp; exact ⟨Below.refl _ _, rfl⟩)
      · obtain rfl := h 0 rfl
        (clear h; refine good_plain rfl ?_; go_simp; exact ⟨Below.refl _ _, rfl⟩)
      · obtain rfl := h 1 rfl
        (clear h; refine good_plain rfl ?_; go_simp; exact ⟨Below.refl _ _, rfl⟩)
      · (clear h; refine good_plain rfl ?_; go_simp; exact ⟨Below.refl _ _, rfl⟩)
      · obtain rfl := h 3 rfl
        (clear h; refine good_plain rfl ?_; go_simp; exact ⟨Below.refl _ _, rfl⟩)
      · obtain rfl := h 4 rfl
        (clear h; refine good_plain rfl ?_; go_simp; refine (T8.out _).mono ?_; rintro e w1 ⟨rfl, rfl⟩; exact ⟨_, rfl, Below.refl _ _, rfl⟩)
      · obtain rfl := h 5 rfl
        (clear h; refine good_plain rfl ?_; go_simp; exact ⟨Below.refl _ _, rfl⟩)
      · obtain rfl := h 2 rfl
        obtain rfl := h 6 rfl
        (clear h; refine good_plain rfl ?_; go_simp; exact ⟨Below.refl _ _, rfl⟩)
      · clear w4 w4' wl wl'
        have hle := hC.bel.size
        clear h; refine good_plain rfl ?_; go_simp; exact ⟨below_mkP _ _, _, rfl, Has.new _ _ _, by simp at hle; omega⟩
    case hend =>
      clear w4 w4' wl wl'
      intro us wx hus hC
      obtain ⟨u0, u1, u2, u3, u4, u5, u6, u7, u8, rfl⟩ : ∃ u0 u1 u2 u3 u4 u5 u6 u7 u8, us = [u0, u1, u2, u3, u4, u5, u6, u7, u8] := by
        match us, hus with
        | [u0, u1, u2, u3, u4, u5, u6, u7, u8], _ => exact ⟨u0, u1, u2, u3, u4, u5, u6, u7, u8, rfl⟩
      clear hus
      intro hall
      obtain ⟨h0, h1, h2, h3, h4, h5, h6, h7, h8, _⟩ := hall
      obtain rfl := h7
      obtain ⟨g, rfl, hG, hg1⟩ := h8
      have HR2 := Lib.hid (HR0.out.belowS hC.bel)
      have HB2 := Lib.hid (bel_step HB0.out hC.bel HB0.out.size)
      have gf := hG.frozen
      obtain ⟨g0, g1, g3⟩ := hG.cells3
      have gz := hG.lt
      have hgne : g ≠ w.heap.size := by omega
      have HR3 := Lib.hid (HR2.out.far3 (g' := g) (x := .int .i64 k) (y := .int .i64 l) (z := .slice none 0 0) (Ne.symm hgne))
      have HG3 := Lib.hid (hG.set3 (x := .int .i64 k) (y := .int .i64 l) (z := .slice none 0 0))
      have HB3 := Lib.hid (((HB2.out.setCell (p := ⟨g, 0, none⟩) (by simp; omega) (.int .i64 k)).setCell (p := ⟨g, 1, none⟩) (by simp; omega) (.int .i64 l)).setCell (p := ⟨g, 2, none⟩) (by simp; omega) (.slice none 0 0))
      clear h0 h1 h2 h3 h4 h5 h6 hC hG HR0 HB0 T8 HR2 HB2
      go_wp2_with fail
      clear g0 g1 g3 gf gz
      go_loopw [5] (fun v5 wr => ∃ i : Nat, i ≤ N ∧ v5 = .int .i64 i ∧ OL w s g k l i wr) (fun v5 _ => N - (intOf v5).toNat)
      case atStart => exact ⟨0, Nat.zero_le _, rfl, [], none, 0, rfl, rfl, by simp [usedN], World.ownsRow_nil _ _ _ _, HG3.out, HR3.out, HB3.out, hg1⟩
      case round =>
        clear HR3 HG3 HB3
        obtain ⟨i, hi, rfl, cs, A, c, hrd, hlen, hus, hown, hG, hR, hbel, _⟩ := hrel
        have HRD := Lib.hid hrd; have HLEN := Lib.hid hlen; have HUS := Lib.hid hus; have HO := Lib.hid hown; have HG := Lib.hid hG; have HR := Lib.hid hR; have HB := Lib.hid hbel
        clear hrd hlen hus hown hG hR hbel
        obtain ⟨o1, e1⟩ : ∃ o1, 12 + 2 * i = o1 := ⟨_, rfl⟩
        obtain ⟨o2, e2⟩ : ∃ o2, 14 + 2 * i = o2 := ⟨_, rfl⟩
        have e1' : (12 : Int) + 2 * (i : Int) = (o1 : Int) := by omega
        have e2' : (14 : Int) + 2 * (i : Int) = (o2 : Int) := by omega
        have F1 := Lib.hid (wrapN o1 (by omega))
        have F2 := Lib.hid (wrapN o2 (by omega))
        by_cases hin : i < N
        · have hin2 : i < n := by omega
          have f3 : (o2 : Int) ≤ 1024 := by omega
          have f4 : (o1 : Int) ≤ (o2 : Int) := by omega
          have f5 : o1 ≤ o2 := by omega
          obtain ⟨a, ha⟩ : ∃ a, at16N s.data.toList o1 = a := ⟨_, rfl⟩
          have la := at16N_lt s.data.toList o1
          have HT1 := Lib.hid (ref_two s o1 o2 a (by omega) (by omega) ha)
          rw [ha] at la
          rw [← e1] at ha
          have HA := Lib.hid ha
          clear ha
          have WA := Lib.hid (wrapN a (by omega))
          obtain ⟨p, hp⟩ : ∃ p, a + 2 = p := ⟨_, rfl⟩
          have p1 : (a : Int) + 2 = (p : Int) := by omega
          have WP := Lib.hid (wrapN p (by omega))
          by_cases ha1 : 1024 < p
          · have ha0 : 1024 < a + 2 := by omega
            have STOP := readGo_none (readGo_stop HRD.out HA.out (.inl ha0)) N hin
            have ANS : Hid (openR s = none) := openN_stop HGO.out STOP
            have ha1' : (1024 : Int) < (p : Int) := by omega
            obtain ⟨r0, r1, r2⟩ := HR.out.cells3; have rf := HR.out.frozen; have rz := HR.out.lt
            skip
            go_wp2_with (first | (go_at_call 75; (with_reducible refine (T6.out _).mono ?_); rintro e w1 ⟨rfl, rfl⟩) | (go_at_call 75; (with_reducible refine (HT1.out _).mono ?_); rintro e w1 ⟨rfl, rfl⟩))
            refine bodyPost_ret (v := .tuple #[.agg #[.int .i64 0, .int .i64 0, .slice none 0 0], .int .i64 4]) (by simp [results, Try.results32, go_sem, *]) rfl ?_
            exact open_none ANS.out (((HB.out.setCell (by simp) _).setCell (by simp) _).setCell (by simp) _)
          · have ha1' : ¬ (1024 : Int) < (p : Int) := by omega
            have ha2' : (p : Int) ≤ 1024 := by omega
            obtain ⟨m, hm⟩ : ∃ m, at16N s.data.toList a = m := ⟨_, rfl⟩
            have lm := at16N_lt s.data.toList a
            have HT2 := Lib.hid (ref_two s a p m (by omega) (by omega) hm)
            rw [hm] at lm
            have HM := Lib.hid hm
            clear hm
            have WM := Lib.hid (wrapN m (by omega))
            obtain ⟨q, hq⟩ : ∃ q, p + m = q := ⟨_, rfl⟩
            have p2 : (p : Int) + (m : Int) = (q : Int) := by omega
            have WQ := Lib.hid (wrapN q (by omega))
            by_cases hq1 : 1024 < q
            · have ha0 : 1024 < a + 2 + at16N s.data.toList a := by rw [HM.out]; omega
              have STOP := readGo_none (readGo_stop HRD.out HA.out (.inr ha0)) N hin
              have ANS : Hid (openR s = none) := openN_stop HGO.out STOP
              have HQ1 := Lib.hid hq1
              clear hq1
              obtain ⟨r0, r1, r2⟩ := HR.out.cells3; have rf := HR.out.frozen; have rz := HR.out.lt
              skip
              go_wp2_with fail
              (go_at_call 75; (with_reducible refine (T6.out _).mono ?_); rintro e w1 ⟨rfl, rfl⟩)
              go_wp2_with fail
              (go_at_call 75; (with_reducible refine (HT1.out _).mono ?_); rintro e w1 ⟨rfl, rfl⟩)
              clear e1' e2' f3 f4 f5
              go_wp2_with fail
              (go_at_call 75; (with_reducible refine (HT2.out _).mono ?_); rintro e w1 ⟨rfl, rfl⟩)
              have hq1 := HQ1.out
              go_wp2_with fail
              refine bodyPost_ret (v := .tuple #[.agg #[.int .i64 0, .int .i64 0, .slice none 0 0], .int .i64 4]) (by simp [results, Try.results32, go_sem, *]) rfl ?_
              exact open_none ANS.out (((HB.out.setCell (by simp) _).setCell (by simp) _).setCell (by simp) _)
            · have RD := Lib.hid (readGo_more HRD.out HA.out HM.out (by omega) (by omega))
              rw [hp, hq] at RD
              obtain ⟨i0, hi0, hz0, hz1, hz2⟩ := info_parts infoString
              have hgne : some g ≠ Value.ownBlock (.slice A i c) := own_ne HO.out (by omega)
              have HQ1 := Lib.hid hq1
              clear hq1
              skip
              go_wp2_with fail
              (go_at_call 75; (with_reducible refine (T6.out _).mono ?_); rintro e w1 ⟨rfl, rfl⟩)
              go_wp2_with fail
              (go_at_call 75; (with_reducible refine (HT1.out _).mono ?_); rintro e w1 ⟨rfl, rfl⟩)
              clear e1' e2' f3 f4 f5
              go_wp2_with fail
              (go_at_call 75; (with_reducible refine (HT2.out _).mono ?_); rintro e w1 ⟨rfl, rfl⟩)
              have hq1 := HQ1.out
              go_wp2_with fail
              have p3 := WP.out.1; have p4 := WQ.out.1
              obtain ⟨g0, g1, g3⟩ := HG.out.cells3
              have gf := HG.out.frozen
              have gz := HG.out.lt
              have hq1' : ¬ (1024 : Int) < (q : Int) := by omega
              have p6 : (q : Int) ≤ 1024 := by omega
              have p8 : q ≤ s.size := by omega
              have p5 : (p : Int) ≤ (q : Int) := by omega
              have p7 : p ≤ q := by omega
              go_region_law
                (first
                  | (refine step_append_lies _ (by rfl) _ _ _ (by rfl) (g + 1) 9 i0 _ 1 16 Try.underlying38 hi0 hz0 hz1 hz2 rfl (by omega) (.slice A i c) i (strs cs) (by rfl) (HO.out.drew.alloc _) _ 1 1 [.string (s.extract p q)] (by rfl) (by rfl) (World.news_of_block (heap_alloc_new _ _)) (by simp [Value.oneCell']) (by omega) (by simp only [maxLen]; omega) (by omega) (by simp; omega) _ rfl ?_; intro gg cap w5 hown5 hgrow hat hlt; have HG5x := (HG.out.drew.alloc (.cells #[.string (s.extract p q)] 9)).grown hgrow hgne; have gf5 := HG5x.frozen; have gc5 := HG5x.cells3.2.2))
              all_goals
                have HOWN := Lib.hid hown5
                have HGN := Lib.hid (HG5x.set 2 (.slice (some ⟨gg, 0, none⟩) (i + 1) cap))
                have HRN := Lib.hid (((HR.out.drew.alloc (.cells #[.string (s.extract p q)] 9)).grown hgrow (own_ne HO.out (by omega))).far (p := ⟨g, 2, none⟩) (by simp; omega) (.slice (some ⟨gg, 0, none⟩) (i + 1) cap))
                have HBN := Lib.hid (((HB.out.drew.alloc HB.out.size (.cells #[.string (s.extract p q)] 9)).grown hgrow (Nat.le_trans HB.out.size (by simp)) (fun k hk => Nat.le_trans (by omega) (HO.out.lt k hk).1)).setCell (p := ⟨g, 2, none⟩) (by simp; omega) (.slice (some ⟨gg, 0, none⟩) (i + 1) cap))
                clear hown5 hgrow HG5x hat hlt gf5 gc5 p3 p4
                go_wp2_with fail
                go_roundw
                case rel =>
                  refine ⟨i + 1, by omega, by simp, cs ++ [s.extract p q], some ⟨gg, 0, none⟩, cap, RD.out, by simp [HLEN.out], (readGo_spec hs RD.out).2, ?_, HGN.out, HRN.out, HBN.out, by omega⟩
                  rw [show strs (cs ++ [s.extract p q]) = strs cs ++ [.string (s.extract p q)] by simp [strs]]
                  exact ownsRow_setCell_below HOWN.out (by simp) _
                case measure => simp [intOf]; omega
        · obtain rfl : N = i := by omega
          have SSW := SS.of_own HO.out
          have TS := ref_Seal (k : Int) (l : Int) A N c cs wr SSW (by omega) (by have := HUS.out; omega)
          obtain ⟨g0, g1, g3⟩ := HG.out.cells3
          have gf := HG.out.frozen
          have gz := HG.out.lt
          have FIN : Hid (openR s = fin s k l cs) := by
            rw [HGO.out]; unfold openN; rw [HRD.out, Option.bind_some, HL.out]; congr 1
          obtain ⟨e, he⟩ : ∃ e, sealE (k : Int) (l : Int) cs = e := ⟨_, rfl⟩
          obtain ⟨t, ht⟩ : ∃ t, sealS (k : Int) (l : Int) cs = t := ⟨_, rfl⟩
          unfold fin at FIN
          rw [he, ht] at TS FIN
          have TS := Lib.hid TS
          clear he ht hin
          by_cases hc : N < n
          · have f3 : ¬ (o2 : Int) ≤ 1024 := by have := N3.out hc; omega
            clear N3
            by_cases e0 : e = 0
            · subst e0
              by_cases ts : t = s
              · subst ts
                have ANS : Hid (openR t = some (k, l, cs)) := by rw [FIN.out, if_pos ⟨rfl, rfl⟩]; exact Lib.hid rfl
                have wn := WN.out.1; have wn' := WN.out.2; have f1 := F1.out.1; have f2 := F2.out.1
                go_wp2_with (first | (go_at_call 75; (with_reducible refine (T6.out _).mono ?_); rintro e w1 ⟨rfl, rfl⟩) | (go_at_call 30; refine TS.out.mono ?_; rintro e w1 ⟨rfl, hb⟩; have HR5 := HR.out.belowS hb; obtain ⟨r0, r1, r2⟩ := HR5.cells3; have rf := HR5.frozen; have rz := HR5.lt; have HG5 := HG.out.belowS hb; obtain ⟨q0, q1, q2⟩ := HG5.cells3; have qz := HG5.lt; have HB5 := Lib.hid (bel_step HB.out hb HB.out.size); have HS5 := Lib.hid (SSW.keep hb); clear HR5 HG5))
                clear wn wn' f1 f2
                refine bodyPost_ret (v := .tuple #[.agg #[.int .i64 k, .int .i64 l, .slice A N c], .int .i64 0]) (by simp [results, Try.results32, go_sem, *]) rfl ?_
                have far : ∀ o a, A = some a → a.block ≠ (⟨w.heap.size, o, none⟩ : Addr).block := fun o a e => by subst e; have := (HO.out.lt a.block rfl).1; simp; omega
                exact open_some ANS.out HLEN.out (((HS5.out.far (far 0) _).far (far 1) _).far (far 2) _) (((HB5.out.setCell (by simp) _).setCell (by simp) _).setCell (by simp) _)
              · have ANS : Hid (openR s = none) := by rw [FIN.out, if_neg (fun h => ts h.2)]; exact Lib.hid rfl
                have g6 := ba_ne ts
                have wn := WN.out.1; have wn' := WN.out.2; have f1 := F1.out.1; have f2 := F2.out.1
                go_wp2_with (first | (go_at_call 75; (with_reducible refine (T6.out _).mono ?_); rintro e w1 ⟨rfl, rfl⟩) | (go_at_call 30; refine TS.out.mono ?_; rintro e w1 ⟨rfl, hb⟩; have HR5 := HR.out.belowS hb; obtain ⟨r0, r1, r2⟩ := HR5.cells3; have rf := HR5.frozen; have rz := HR5.lt; have HG5 := HG.out.belowS hb; obtain ⟨q0, q1, q2⟩ := HG5.cells3; have qz := HG5.lt; have HB5 := Lib.hid (bel_step HB.out hb HB.out.size); have HS5 := Lib.hid (SSW.keep hb); clear HR5 HG5))
                refine bodyPost_ret (v := .tuple #[.agg #[.int .i64 0, .int .i64 0, .slice none 0 0], .int .i64 4]) (by simp [results, Try.results32, go_sem, *]) rfl ?_
                exact open_none ANS.out (((HB5.out.setCell (by simp) _).setCell (by simp) _).setCell (by simp) _)
            · have ANS : Hid (openR s = none) := by rw [FIN.out, if_neg (fun h => e0 h.1)]; exact Lib.hid rfl
              have g5 : (e != (0 : Int)) = true := by simp [e0]
              have wn := WN.out.1; have wn' := WN.out.2; have f1 := F1.out.1; have f2 := F2.out.1
              go_wp2_with (first | (go_at_call 75; (with_reducible refine (T6.out _).mono ?_); rintro e w1 ⟨rfl, rfl⟩) | (go_at_call 30; refine TS.out.mono ?_; rintro e w1 ⟨rfl, hb⟩; have HR5 := HR.out.belowS hb; obtain ⟨r0, r1, r2⟩ := HR5.cells3; have rf := HR5.frozen; have rz := HR5.lt; have HG5 := HG.out.belowS hb; obtain ⟨q0, q1, q2⟩ := HG5.cells3; have qz := HG5.lt; have HB5 := Lib.hid (bel_step HB.out hb HB.out.size); have HS5 := Lib.hid (SSW.keep hb); clear HR5 HG5))
              refine bodyPost_ret (v := .tuple #[.agg #[.int .i64 0, .int .i64 0, .slice none 0 0], .int .i64 4]) (by simp [results, Try.results32, go_sem, *]) rfl ?_
              exact open_none ANS.out (((HB5.out.setCell (by simp) _).setCell (by simp) _).setCell (by simp) _)
          · clear N3
            by_cases e0 : e = 0
            · subst e0
              by_cases ts : t = s
              · subst ts
                have ANS : Hid (openR t = some (k, l, cs)) := by rw [FIN.out, if_pos ⟨rfl, rfl⟩]; exact Lib.hid rfl
                have wn := WN.out.1; have wn' := WN.out.2; have f1 := F1.out.1; have f2 := F2.out.1
                go_wp2_with (first | (go_at_call 75; (with_reducible refine (T6.out _).mono ?_); rintro e w1 ⟨rfl, rfl⟩) | (go_at_call 30; refine TS.out.mono ?_; rintro e w1 ⟨rfl, hb⟩; have HR5 := HR.out.belowS hb; obtain ⟨r0, r1, r2⟩ := HR5.cells3; have rf := HR5.frozen; have rz := HR5.lt; have HG5 := HG.out.belowS hb; obtain ⟨q0, q1, q2⟩ := HG5.cells3; have qz := HG5.lt; have HB5 := Lib.hid (bel_step HB.out hb HB.out.size); have HS5 := Lib.hid (SSW.keep hb); clear HR5 HG5))
                clear wn wn' f1 f2
                refine bodyPost_ret (v := .tuple #[.agg #[.int .i64 k, .int .i64 l, .slice A N c], .int .i64 0]) (by simp [results, Try.results32, go_sem, *]) rfl ?_
                have far : ∀ o a, A = some a → a.block ≠ (⟨w.heap.size, o, none⟩ : Addr).block := fun o a e => by subst e; have := (HO.out.lt a.block rfl).1; simp; omega
                exact open_some ANS.out HLEN.out (((HS5.out.far (far 0) _).far (far 1) _).far (far 2) _) (((HB5.out.setCell (by simp) _).setCell (by simp) _).setCell (by simp) _)
              · have ANS : Hid (openR s = none) := by rw [FIN.out, if_neg (fun h => ts h.2)]; exact Lib.hid rfl
                have g6 := ba_ne ts
                have wn := WN.out.1; have wn' := WN.out.2; have f1 := F1.out.1; have f2 := F2.out.1
                go_wp2_with (first | (go_at_call 75; (with_reducible refine (T6.out _).mono ?_); rintro e w1 ⟨rfl, rfl⟩) | (go_at_call 30; refine TS.out.mono ?_; rintro e w1 ⟨rfl, hb⟩; have HR5 := HR.out.belowS hb; obtain ⟨r0, r1, r2⟩ := HR5.cells3; have rf := HR5.frozen; have rz := HR5.lt; have HG5 := HG.out.belowS hb; obtain ⟨q0, q1, q2⟩ := HG5.cells3; have qz := HG5.lt; have HB5 := Lib.hid (bel_step HB.out hb HB.out.size); have HS5 := Lib.hid (SSW.keep hb); clear HR5 HG5))
                refine bodyPost_ret (v := .tuple #[.agg #[.int .i64 0, .int .i64 0, .slice none 0 0], .int .i64 4]) (by simp [results, Try.results32, go_sem, *]) rfl ?_
                exact open_none ANS.out (((HB5.out.setCell (by simp) _).setCell (by simp) _).setCell (by simp) _)
            · have ANS : Hid (openR s = none) := by rw [FIN.out, if_neg (fun h => e0 h.1)]; exact Lib.hid rfl
              have g5 : (e != (0 : Int)) = true := by simp [e0]
              have wn := WN.out.1; have wn' := WN.out.2; have f1 := F1.out.1; have f2 := F2.out.1
              go_wp2_with (first | (go_at_call 75; (with_reducible refine (T6.out _).mono ?_); rintro e w1 ⟨rfl, rfl⟩) | (go_at_call 30; refine TS.out.mono ?_; rintro e w1 ⟨rfl, hb⟩; have HR5 := HR.out.belowS hb; obtain ⟨r0, r1, r2⟩ := HR5.cells3; have rf := HR5.frozen; have rz := HR5.lt; have HG5 := HG.out.belowS hb; obtain ⟨q0, q1, q2⟩ := HG5.cells3; have qz := HG5.lt; have HB5 := Lib.hid (bel_step HB.out hb HB.out.size); have HS5 := Lib.hid (SSW.keep hb); clear HR5 HG5))
              refine bodyPost_ret (v := .tuple #[.agg #[.int .i64 0, .int .i64 0, .slice none 0 0], .int .i64 4]) (by simp [results, Try.results32, go_sem, *]) rfl ?_
              exact open_none ANS.out (((HB5.out.setCell (by simp) _).setCell (by simp) _).setCell (by simp) _)
  · have ANS := Lib.hid (openR_size h1)
    have g2 : ((s.size : Int) != 1024) = true := by simp; omega
    obtain ⟨r0, r1, r2⟩ := HR0.out.cells3
    have rf := HR0.out.frozen
    have rz := HR0.out.lt
    go_enter Try.func32, Try.ntmps32
    go_wp2_with fail
    refine bodyPost_ret (v := .tuple #[.agg #[.int .i64 0, .int .i64 0, .slice none 0 0], .int .i64 4]) (by simp [results, Try.results32, go_sem, *]) rfl ?_
    exact open_none ANS.out HB0.out


end Go.Proofs.Ytlkkpgdgnnknpaa
