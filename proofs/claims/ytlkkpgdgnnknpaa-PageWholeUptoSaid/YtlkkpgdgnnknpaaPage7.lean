/-
  page.Open.
-/
import Derived.Test.YtlkkpgdgnnknpaaPage6
import Derived.Deep.RegionLaw
import Derived.Deep.AppendLies
import Derived.Deep.DrawnRows
namespace Go.Proofs.Ytlkkpgdgnnknpaa
open Go.RowKit
open Go.BigFrame
set_option linter.unusedVariables false
attribute [local go_sem] OpGood goodUpon fillA Act.put

/-- what Open answers: a page, or damage -/
def OpenPost (w : World) (o : Option Pg) (bad : Value) (e : Ending) (w' : World) : Prop :=
  match o with
  | none => e = .returned (.tuple #[.agg #[.int .i64 0, .int .i64 0, .slice none 0 0], bad]) ∧ Below w.heap.size w w'
  | some p => ∃ A c, e = .returned (.tuple #[.agg #[.int .i64 p.1, .int .i64 p.2.1, .slice A p.2.2.length c], .int .i64 0]) ∧ SS w' A p.2.2.length p.2.2 ∧ Below w.heap.size w w'
theorem openP_size {s : ByteArray} (h : s.size ≠ 1024) : openP s = none := by unfold openP; rw [if_pos (.inl h)]
theorem openP_sum {s : ByteArray} (h : at32N s.data.toList 0 ≠ crcN (s.data.toList.drop 4)) : openP s = none := by unfold openP; rw [if_pos (.inr (.inl h))]
theorem openP_count {s : ByteArray} (h : 1024 < 12 + 2 * at16N s.data.toList 6) : openP s = none := by unfold openP; rw [if_pos (.inr (.inr h))]
theorem openP_go {s : ByteArray} (h1 : s.size = 1024) (h2 : at32N s.data.toList 0 = crcN (s.data.toList.drop 4)) (h3 : ¬ 1024 < 12 + 2 * at16N s.data.toList 6) : openP s = openN s (at16N s.data.toList 6) := by
  unfold openP; rw [if_neg]; rintro (h | h | h); exact h h1; exact h h2; exact h3 h
theorem extract_drop4 {s : ByteArray} (h : s.size = 1024) : (s.extract 4 1024).data.toList = s.data.toList.drop 4 := by
  rw [Lib.extract_data, List.take_of_length_le (by simp; omega)]

theorem open_none {w w' : World} {o : Option Pg} {bad : Value} (h : o = none) (hb : Below w.heap.size w w') : OpenPost w o bad (.returned (.tuple #[.agg #[.int .i64 0, .int .i64 0, .slice none 0 0], bad])) w' := by
  subst h; exact ⟨rfl, hb⟩
theorem open_some {w w' : World} {o : Option Pg} {bad : Value} {k l n c : Nat} {cs : List ByteArray} {A : Option Addr} (h : o = some (k, l, cs)) (hn : cs.length = n) (hs : SS w' A n cs) (hb : Below w.heap.size w w') : OpenPost w o bad (.returned (.tuple #[.agg #[.int .i64 k, .int .i64 l, .slice A n c], .int .i64 0])) w' := by
  subst h hn; exact ⟨A, c, rfl, hs, hb⟩
theorem readGo_none {s : ByteArray} {i : Nat} (h : readGo s i = none) : ∀ n, i ≤ n → readGo s n = none := by
  intro n hn
  induction hn with
  | refl => exact h
  | @step m _ ih => rw [readGo, ih]; rfl
theorem readGo_spec {s : ByteArray} (hs : s.size ≤ 1048576) : ∀ {i : Nat} {cs : List ByteArray}, readGo s i = some cs → cs.length = i ∧ usedN cs ≤ 2000 * i
  | 0, cs, h => by injection h with h; subst h; exact ⟨rfl, by simp [usedN]⟩
  | i + 1, cs, h => by
    rw [readGo] at h
    obtain ⟨c0, h1, h2⟩ := Option.bind_eq_some_iff.1 h
    obtain ⟨l1, l2⟩ := readGo_spec hs h1
    split at h2
    · cases h2
    · rename_i hc
      injection h2 with h2
      subst h2
      refine ⟨by simp [l1], ?_⟩
      rw [usedN_snoc]
      simp only [ByteArray.size_extract]
      omega
theorem readGo_stop {s : ByteArray} {i : Nat} {cs : List ByteArray} {a : Nat} (h : readGo s i = some cs) (ha : at16N s.data.toList (12 + 2 * i) = a) (hc : 1024 < a + 2 ∨ 1024 < a + 2 + at16N s.data.toList a) : readGo s (i + 1) = none := by
  subst ha
  rw [readGo, h, Option.bind_some, if_pos hc]
theorem readGo_more {s : ByteArray} {i : Nat} {cs : List ByteArray} {a m : Nat} (h : readGo s i = some cs) (ha : at16N s.data.toList (12 + 2 * i) = a) (hm : at16N s.data.toList a = m) (h1 : ¬ 1024 < a + 2) (h2 : ¬ 1024 < a + 2 + m) : readGo s (i + 1) = some (cs ++ [s.extract (a + 2) (a + 2 + m)]) := by
  subst ha hm
  rw [readGo, h, Option.bind_some, if_neg (by rintro (h | h); exact h1 h; exact h2 h)]
def strs (l : List ByteArray) : List Value := l.map Value.string
theorem infoString : (Try.prog.info? 9).map (fun i => (i.zero, i.size, i.bytes)) = some (some (.string ⟨#[]⟩), 1, 16) := by kernel_rfl
theorem SS.of_own {w : World} {base : Nat} {e : TypeId} {A : Option Addr} {n c : Nat} {l : List ByteArray} (h : w.ownsRow base e 1 (.slice A n c) n (strs l)) : SS w A n l := by
  have hl : l.length = n := by have := h.1; simp [strs] at this; exact this
  refine ⟨hl, fun hn => ?_⟩
  rcases h.2 with ⟨h0, h1⟩ | ⟨g, cap, cur, hv, hb, hgg, hnc, _⟩
  · omega
  · cases hv
    refine ⟨g, 0, rfl, (Array.getElem?_eq_some_iff.1 hgg).1, fun i u hu => ?_⟩
    have := h.cells (g := g) rfl i (.string u) (by simp [strs, hu])
    rw [addr_add] at this; exact this
theorem own_below {w w' : World} {base : Nat} {e : TypeId} {size : Nat} {v : Value} {n : Nat} {xs : List Value} (h : w.ownsRow base e size v n xs) (hb : Below w.heap.size w w') : w'.ownsRow base e size v n xs := by
  refine ⟨h.1, ?_⟩
  rcases h.2 with h | ⟨g, cap, cur, hv, hbg, hg, r⟩
  · exact .inl h
  · exact .inr ⟨g, cap, cur, hv, hbg, (hb.block g (Array.getElem?_eq_some_iff.1 hg).1).trans hg, r⟩
theorem own_ne {w : World} {base : Nat} {e : TypeId} {size : Nat} {v : Value} {n : Nat} {xs : List Value} (h : w.ownsRow base e size v n xs) {g : Nat} (hg : g < base) : some g ≠ v.ownBlock := fun e => by
  have := (h.lt g e.symm).1; omega
theorem below_grown {B : Nat} {w w' : World} {e : TypeId} {size : Nat} {v : Value} {n : Nat} {xs : List Value} {W : World} (h : Below B W w) (hown : w.ownsRow B e size v n xs) (hg : w.grownBy w' v.ownBlock) (hB : B ≤ w.heap.size) : Below B W w' :=
  h.grown hg hB (fun k hk => (hown.lt k hk).1)
theorem has_third {w : World} {g : Nat} {t : TypeId} {x y z : Value} (h : Has w g t #[x, y, z]) : w.cell? ⟨g, 2, none⟩ = some z ∧ w.frozen? ⟨g, 2, none⟩ = false := ⟨h.cells3.2.2, h.frozen 2⟩
theorem ba_ne {t s : ByteArray} (h : ¬ t = s) : (t.toList == s.toList) = false := by
  rw [Lib.toList_data, Lib.toList_data, beq_eq_false_iff_ne]
  intro e
  exact h (ByteArray.ext (Array.toList_inj.1 e))
theorem SS.far {w : World} {A : Option Addr} {n : Nat} {l : List ByteArray} (h : SS w A n l) {p : Addr} (hp : ∀ a, A = some a → a.block ≠ p.block) (u : Value) : SS (w.setCell p u) A n l := by
  refine ⟨h.1, fun hn => ?_⟩
  obtain ⟨g, o, e, hg, hc⟩ := h.2 hn
  refine ⟨g, o, e, by simpa using hg, fun i v hv => (World.cell?_of_block (a := ⟨g, o + i, none⟩) (Below.heap_setCell w p u g (hp _ e))).trans (hc i v hv)⟩
theorem below_mkP (w : World) (o : Obj) : Below w.heap.size w (w.alloc o) := (Below.refl _ _).alloc (Nat.le_refl _) _
/-- the state of Open's loop -/
def OL (w : World) (s : ByteArray) (g k l i : Nat) (wr : World) : Prop :=
  ∃ cs A c, readGo s i = some cs ∧ cs.length = i ∧ usedN cs ≤ 2000 * i ∧ wr.ownsRow (g + 1) 9 1 (.slice A i c) i (strs cs) ∧ Has wr g 40 #[.int .i64 k, .int .i64 l, .slice A i c] ∧
    Has wr w.heap.size 40 #[.int .i64 0, .int .i64 0, .slice none 0 0] ∧ Below w.heap.size w wr ∧ w.heap.size + 1 ≤ g

set_option maxRecDepth 100000 in
set_option maxHeartbeats 6400000 in
theorem page_Open (s : ByteArray) (hs : s.size ≤ 1048576) (w : World) : Calls Try.prog 31 #[.string s] w (OpenPost w (openP s) (.int .i64 4)) := by
  have HR0 := Lib.hid (Has.new w 40 #[.int .i64 0, .int .i64 0, .slice none 0 0])
  have HB0 := Lib.hid (below_mkP w (.cells #[.int .i64 0, .int .i64 0, .slice none 0 0] 40))
  by_cases h1 : s.size = 1024
  · obtain ⟨x, hx⟩ : ∃ x, at32N s.data.toList 0 = x := ⟨_, rfl⟩
    obtain ⟨y, hy⟩ : ∃ y, crcN (s.data.toList.drop 4) = y := ⟨_, rfl⟩
    have lx := at32N_lt s.data.toList 0
    have ly := crcN_lt (s.data.toList.drop 4)
    have T0 := Lib.hid (fun w1 => page_at32 s 0 (by omega) hs w1)
    have S0 := (fun w1 => page_Sum (s.extract 4 1024) w1 (by simp; omega))
    rw [extract_drop4 h1, hy] at S0
    have HS0 := Lib.hid S0
    clear S0
    rw [hx] at lx T0
    rw [hy] at ly
    have w1 : IntKind.u32.wrap (x : Int) = (x : Int) := by rw [IntKind.wrap_u32']; omega
    have szs : ((s.size : Nat) : Int) = 1024 := by omega
    by_cases h2 : x = y
    · have g2 : ((x : Int) != (y : Int)) = false := by rw [h2]; simp
      have H1 := Lib.hid h1; have H2 := Lib.hid (show at32N s.data.toList 0 = crcN (s.data.toList.drop 4) by rw [hx, hy, h2])
      clear hx hy h2
      have s4 : 4 < s.size := by omega
      have s4' : (4 : Int) < (s.size : Int) := by omega
      have i4 := getD_byte s 4 s4
      obtain ⟨k, hk⟩ : ∃ k, (s.data.toList.getD 4 0).toNat = k := ⟨_, rfl⟩
      have bk := byte_lt (s.data.toList.getD 4 0)
      rw [hk] at bk
      rw [i4] at hk
      have w4 : IntKind.i64.wrap (s[4].toNat : Int) = (k : Int) := by rw [hk]; exact IntWalk.i64_in _ ⟨by omega, by omega⟩
      have w4' : wrap64 (s[4].toNat : Int) = (k : Int) := by rw [hk]; unfold wrap64; omega
      have HK : Hid ((s.data.toList.getD 4 0).toNat = k) := by rw [i4]; exact hk
      clear i4
      obtain ⟨l, hl⟩ : ∃ l, at32N s.data.toList 8 = l := ⟨_, rfl⟩
      have ll := at32N_lt s.data.toList 8
      have T8 := Lib.hid (fun w1 => page_at32 s 8 (by omega) hs w1)
      rw [hl] at ll T8
      obtain ⟨n, hn⟩ : ∃ n, at16N s.data.toList 6 = n := ⟨_, rfl⟩
      have ln := at16N_lt s.data.toList 6
      have T6 := Lib.hid (fun w1 => page_at16 s 6 (by omega) hs w1)
      rw [hn] at ln T6
      have HL := Lib.hid hl; have HN := Lib.hid hn; have HKK := Lib.hid hk
      clear hl hn hk
      go_enter Try.func31, Try.ntmps31
      go_wp2_with fail
      refine wp_region_cls (_) (by kernel_rfl) (by kernel_rfl) (Cls.start _) ?_
      repeat
        first
          | go_big_quiet_skip
          | (go_big_quiet_want; (first | go_big_quiet_op | go_simp); first | go_big_quiet_on | (apply Exists.intro; refine ⟨fun w' hw' => ?_, ?_⟩; (· (first | (with_reducible exact rfl) | (first | (go_at_call 73; refine (T0.out _).mono ?_; rintro e w1 ⟨rfl, hb⟩; exact ⟨rfl, Cls.step hw' hb⟩) | (go_at_call 34; refine (HS0.out _).mono ?_; rintro e w1 ⟨rfl, rfl⟩; exact ⟨rfl, hw'⟩)) | (obtain ⟨hc, hf⟩ := hw'.facts; go_simp; first | done | (with_reducible exact rfl) | (with_reducible exact ⟨rfl, rfl⟩)))); go_big_quiet_on))
      refine wpQuiet_nil ?_
      intro wq hq
      have HR1 := Lib.hid (HR0.out.belowS hq.bel)
      have HB1 := Lib.hid (bel_step HB0.out hq.bel HB0.out.size)
      clear hq
      go_wp2_with fail
      refine wp_region_inv 7 (Cls (wq)) (prP [fun u _ => u = .string s, fun u _ => u = .int .u8 s[4].toNat, fun u _ => u = .int .i64 k, fun u _ => u = .string s, fun u _ => u = .int .i64 l, fun u _ => u = .agg #[.int .i64 k, .int .i64 l, .slice none 0 0], fun u w1 => ∃ g, u = .pointer (some ⟨g, 0, none⟩) ∧ Has w1 g 40 #[.int .i64 0, .int .i64 0, .slice none 0 0] ∧ w.heap.size + 1 ≤ g]) (by kernel_rfl) (by kernel_rfl) (by kernel_rfl) (fun _ _ hC hb => Cls.step hC hb) ?hst (Cls.start _) ?hops ?hend
      case hst => exact prP_stable _ ⟨stab_eq _, stab_eq _, stab_eq _, stab_eq _, stab_eq _, stab_eq _, fun u w1 w2 hb ⟨g, e, h, hg⟩ => ⟨g, e, h.belowS hb, hg⟩, trivial⟩
      case hops =>
        intro us wx hus hC
        obtain ⟨u0, u1, u2, u3, u4, u5, u6, rfl⟩ : ∃ u0 u1 u2 u3 u4 u5 u6, us = [u0, u1, u2, u3, u4, u5, u6] := by
          match us, hus with
          | [u0, u1, u2, u3, u4, u5, u6], _ => exact ⟨u0, u1, u2, u3, u4, u5, u6, rfl⟩
        clear hus
        simp only [fillA, Act.put, List.take_succ_cons, List.take_zero, List.setIfInBounds_toArray, List.set_cons_zero, List.set_cons_succ]
        refine ⟨fun h => ?_, fun h => ?_, fun h => ?_, fun h => ?_, fun h => ?_, fun h => ?_, fun h => ?_, trivial⟩
        · (clear h; refine good_plain rfl ?_; go_simp; exact ⟨Below.refl _ _, rfl⟩)
        · obtain rfl := h 0 rfl
          (clear h; refine good_plain rfl ?_; go_simp; exact ⟨Below.refl _ _, rfl⟩)
        · obtain rfl := h 1 rfl
          (clear h; refine good_plain rfl ?_; go_simp; exact ⟨Below.refl _ _, rfl⟩)
        · (clear h; refine good_plain rfl ?_; go_simp; exact ⟨Below.refl _ _, rfl⟩)
        · obtain rfl := h 3 rfl
          (clear h; refine good_plain rfl ?_; go_simp; refine (T8.out _).mono ?_; rintro e w1 ⟨rfl, hb⟩; exact ⟨_, rfl, hb, rfl⟩)
        · obtain rfl := h 2 rfl
          obtain rfl := h 4 rfl
          (clear h; refine good_plain rfl ?_; go_simp; exact ⟨Below.refl _ _, rfl⟩)
        · have hle := hC.bel.size
          have hlt := HR1.out.lt
          clear h; refine good_plain rfl ?_; go_simp; exact ⟨below_mkP _ _, _, rfl, Has.new _ _ _, by omega⟩
      case hend =>
        intro us wx hus hC
        obtain ⟨u0, u1, u2, u3, u4, u5, u6, rfl⟩ : ∃ u0 u1 u2 u3 u4 u5 u6, us = [u0, u1, u2, u3, u4, u5, u6] := by
          match us, hus with
          | [u0, u1, u2, u3, u4, u5, u6], _ => exact ⟨u0, u1, u2, u3, u4, u5, u6, rfl⟩
        clear hus
        intro hall
        obtain ⟨h0, h1, h2, h3, h4, h5, h6, _⟩ := hall
        obtain rfl := h5
        obtain ⟨g, rfl, hG, hg1⟩ := h6
        have HR2 := Lib.hid (HR1.out.belowS hC.bel)
        have HB2 := Lib.hid (bel_step HB1.out hC.bel HB1.out.size)
        have HG2 := Lib.hid hG
        have gf := hG.frozen
        obtain ⟨g0, g1, g3⟩ := hG.cells3
        have gz := hG.lt
        have hgne : g ≠ w.heap.size := by omega
        have HR3 := Lib.hid (HR2.out.far3 (g' := g) (x := .int .i64 k) (y := .int .i64 l) (z := .slice none 0 0) (Ne.symm hgne))
        have HG3 := Lib.hid (hG.set3 (x := .int .i64 k) (y := .int .i64 l) (z := .slice none 0 0))
        have HB3 := Lib.hid (((HB2.out.setCell (p := ⟨g, 0, none⟩) (by simp; omega) (.int .i64 k)).setCell (p := ⟨g, 1, none⟩) (by simp; omega) (.int .i64 l)).setCell (p := ⟨g, 2, none⟩) (by simp; omega) (.slice none 0 0))
        clear h0 h1 h2 h3 h4 hC hG HR1 HB1 T8 T0 HS0 HR2 HB2 HG2
        by_cases h3 : 1024 < 12 + 2 * n
        · have ANS := Lib.hid (openP_count (s := s) (by rw [HN.out]; exact h3))
          go_wp2_with (go_at_call 74; refine (T6.out _).mono ?_; rintro e w1 ⟨rfl, hb⟩; have HR4 := HR3.out.belowS hb; obtain ⟨r0, r1, r2⟩ := HR4.cells3; have rf := HR4.frozen; have rz := HR4.lt; have HB4 := Lib.hid (bel_step HB3.out hb HB3.out.size); clear HR4)
          refine bodyPost_ret (v := .tuple #[.agg #[.int .i64 0, .int .i64 0, .slice none 0 0], .int .i64 4]) (by simp [results, Try.results31, go_sem, *]) rfl ?_
          exact open_none ANS.out (((HB4.out.setCell (by simp) _).setCell (by simp) _).setCell (by simp) _)
        · have HGO : Hid (openP s = openN s n) := by
            have := openP_go H1.out H2.out (by rw [HN.out]; exact h3)
            rw [HN.out] at this; exact this
          go_wp2_with (go_at_call 74; refine (T6.out _).mono ?_; rintro e w1 ⟨rfl, hb⟩; have HR4 := Lib.hid (HR3.out.belowS hb); have HG4 := Lib.hid (HG3.out.belowS hb); have HB4 := Lib.hid (bel_step HB3.out hb HB3.out.size))
          clear g0 g1 g3 gf gz hb
          go_loopw [37] (fun v37 wr => ∃ i : Nat, i ≤ n ∧ v37 = .int .i64 i ∧ OL w s g k l i wr) (fun v37 _ => n - (intOf v37).toNat)
          case atStart => exact ⟨0, Nat.zero_le _, rfl, [], none, 0, rfl, rfl, by simp [usedN], World.ownsRow_nil _ _ _ _, HG4.out, HR4.out, HB4.out, hg1⟩
          case round =>
            clear HR4 HG4 HB4 HR3 HG3 HB3
            obtain ⟨i, hi, rfl, cs, A, c, hrd, hlen, hus, hown, hG, hR, hbel, _⟩ := hrel
            have HRD := Lib.hid hrd; have HLEN := Lib.hid hlen; have HUS := Lib.hid hus; have HO := Lib.hid hown; have HG := Lib.hid hG; have HR := Lib.hid hR; have HB := Lib.hid hbel
            clear hrd hlen hus hown hG hR hbel
            by_cases hin : i < n
            · obtain ⟨a, ha⟩ : ∃ a, at16N s.data.toList (12 + 2 * i) = a := ⟨_, rfl⟩
              have la := at16N_lt s.data.toList (12 + 2 * i)
              have T1 := (fun w1 => page_at16 s (12 + 2 * i) (by omega) hs w1)
              rw [ha] at la T1
              rw [show ((12 + 2 * i : Nat) : Int) = 12 + 2 * (i : Int) by omega] at T1
              have HT1 := Lib.hid T1; have HA := Lib.hid ha
              clear T1 ha
              by_cases ha1 : 1024 < a + 2
              · have ANS : Hid (openP s = none) := by
                  rw [HGO.out]; unfold openN; rw [readGo_none (readGo_stop HRD.out HA.out (.inl ha1)) n hin]; exact Lib.hid rfl
                go_wp2_with (go_at_call 74; refine (HT1.out _).mono ?_; rintro e w1 ⟨rfl, hb⟩; have HR5 := HR.out.belowS hb; obtain ⟨r0, r1, r2⟩ := HR5.cells3; have rf := HR5.frozen; have rz := HR5.lt; have HB5 := Lib.hid (bel_step HB.out hb HB.out.size); clear HR5)
                refine bodyPost_ret (v := .tuple #[.agg #[.int .i64 0, .int .i64 0, .slice none 0 0], .int .i64 4]) (by simp [results, Try.results31, go_sem, *]) rfl ?_
                exact open_none ANS.out (((HB5.out.setCell (by simp) _).setCell (by simp) _).setCell (by simp) _)
              · obtain ⟨m, hm⟩ : ∃ m, at16N s.data.toList a = m := ⟨_, rfl⟩
                have lm := at16N_lt s.data.toList a
                have T2 := (fun w1 => page_at16 s a (by omega) hs w1)
                rw [hm] at lm T2
                have HT2 := Lib.hid T2; have HM := Lib.hid hm
                clear T2 hm
                by_cases ha2 : 1024 < a + 2 + m
                · have ANS : Hid (openP s = none) := by
                    rw [HGO.out]; unfold openN; rw [readGo_none (readGo_stop HRD.out HA.out (.inr (by rw [HM.out]; exact ha2))) n hin]; exact Lib.hid rfl
                  go_wp2_with (first | (go_at_call 74; (with_reducible refine (HT1.out _).mono ?_); rintro e w1 ⟨rfl, hb⟩; have HR5 := Lib.hid (HR.out.belowS hb); have HB5 := Lib.hid (bel_step HB.out hb HB.out.size)) | (go_at_call 74; (with_reducible refine (HT2.out _).mono ?_); rintro e w2 ⟨rfl, hb2⟩; have HR6 := HR5.out.belowS hb2; obtain ⟨r0, r1, r2⟩ := HR6.cells3; have rf := HR6.frozen; have rz := HR6.lt; have HB6 := Lib.hid (bel_step HB5.out hb2 HB5.out.size); clear HR6))
                  refine bodyPost_ret (v := .tuple #[.agg #[.int .i64 0, .int .i64 0, .slice none 0 0], .int .i64 4]) (by simp [results, Try.results31, go_sem, *]) rfl ?_
                  exact open_none ANS.out (((HB6.out.setCell (by simp) _).setCell (by simp) _).setCell (by simp) _)
                · have RD := Lib.hid (readGo_more HRD.out HA.out HM.out ha1 ha2)
                  go_wp2_with (first | (go_at_call 74; (with_reducible refine (HT1.out _).mono ?_); rintro e w1 ⟨rfl, hb⟩; have HR5 := Lib.hid (HR.out.belowS hb); have HB5 := Lib.hid (bel_step HB.out hb HB.out.size); have HG5 := Lib.hid (HG.out.belowS hb)) | (go_at_call 74; (with_reducible refine (HT2.out _).mono ?_); rintro e w2 ⟨rfl, hb2⟩; have HR6 := Lib.hid (HR5.out.belowS hb2); have HG6 := Lib.hid (HG5.out.belowS hb2); have HB6 := Lib.hid (bel_step HB5.out hb2 HB5.out.size)))
                  have HO6 := Lib.hid (own_below (own_below HO.out hb) hb2)
                  obtain ⟨i0, hi0, hz0, hz1, hz2⟩ := info_parts infoString
                  obtain ⟨g0, g1, g3⟩ := HG6.out.cells3
                  have gf := HG6.out.frozen
                  have gz := HG6.out.lt
                  have hgne : some g ≠ Value.ownBlock (.slice A i c) := own_ne HO.out (by omega)
                  obtain ⟨p, hp⟩ : ∃ p, a + 2 = p := ⟨_, rfl⟩
                  obtain ⟨q, hq⟩ : ∃ q, p + m = q := ⟨_, rfl⟩
                  rw [hp, hq] at RD
                  have p1 : (a : Int) + 2 = (p : Int) := by omega
                  have p2 : (p : Int) + (m : Int) = (q : Int) := by omega
                  have p3 : IntKind.i64.wrap (p : Int) = (p : Int) := IntWalk.i64_in _ ⟨by omega, by omega⟩
                  have p4 : IntKind.i64.wrap (q : Int) = (q : Int) := IntWalk.i64_in _ ⟨by omega, by omega⟩
                  have p5 : (p : Int) ≤ (q : Int) := by omega
                  have p6 : (q : Int) ≤ 1024 := by omega
                  have p7 : p ≤ q := by omega
                  have p8 : q ≤ s.size := by omega
                  go_region_law
                    (first
                      | (go_simp; go_at_call 74; (with_reducible refine (HT2.out _).mono ?_); rintro e w3 ⟨rfl, hb3⟩; have hz3 : w2.heap.size ≤ w3.heap.size := hb3.size; have HG7 := HG6.out.drew.belowS hb3; have gf7 := HG7.frozen; have gc7 := HG7.cells3.2.2; have gz7 := HG7.lt; have HO7 := own_below HO6.out.drew hb3)
                      | (refine step_append_lies _ (by rfl) _ _ _ (by rfl) (g + 1) 9 i0 _ 1 16 Try.underlying38 hi0 hz0 hz1 hz2 rfl (by omega) (.slice A i c) i (strs cs) (by rfl) (HO7.alloc _) _ 1 1 [.string (s.extract p q)] (by rfl) (by rfl) (World.news_of_block (heap_alloc_new _ _)) (by simp [Value.oneCell']) (by omega) (by simp only [maxLen]; omega) (by omega) (by simp; omega) _ rfl ?_; intro gg cap w5 hown5 hgrow hat hlt; have HG5x := (HG7.alloc _).grown hgrow hgne; have gf5 := HG5x.frozen; have gc5 := HG5x.cells3.2.2))
                  all_goals
                    have HOWN := Lib.hid hown5
                    have HGN := Lib.hid (HG5x.set 2 (.slice (some ⟨gg, 0, none⟩) (i + 1) cap))
                    have HRN := Lib.hid ((((HR6.out.drew.belowS hb3).alloc (.cells #[.string (s.extract p q)] 9)).grown hgrow (own_ne HO.out (by omega))).far (p := ⟨g, 2, none⟩) (by simp; omega) (.slice (some ⟨gg, 0, none⟩) (i + 1) cap))
                    have HBN := Lib.hid ((((bel_step HB6.out.drew hb3 HB6.out.size).alloc (Nat.le_trans HB6.out.size hz3) (.cells #[.string (s.extract p q)] 9)).grown hgrow (Nat.le_trans (Nat.le_trans HB6.out.size hz3) (by simp)) (fun k hk => Nat.le_trans (by omega) (HO.out.lt k hk).1)).setCell (p := ⟨g, 2, none⟩) (by simp; omega) (.slice (some ⟨gg, 0, none⟩) (i + 1) cap))
                    clear hown5 hgrow HG5x HG7 HO7 hat hlt hb3 gf5 gc5 gc7 gf7
                    go_wp2_with fail
                    go_roundw
                    case rel =>
                      refine ⟨i + 1, by omega, by simp, cs ++ [s.extract p q], some ⟨gg, 0, none⟩, cap, RD.out, by simp [HLEN.out], (readGo_spec hs RD.out).2, ?_, HGN.out, HRN.out, HBN.out, by omega⟩
                      rw [show strs (cs ++ [s.extract p q]) = strs cs ++ [.string (s.extract p q)] by simp [strs]]
                      exact ownsRow_setCell_below HOWN.out (by simp) _
                    case measure => simp [intOf]; omega
            · obtain rfl : n = i := by omega
              have SSW := SS.of_own HO.out
              have TS := page_Seal (k : Int) (l : Int) A n c cs wr SSW (by omega) (by have := HUS.out; omega)
              obtain ⟨g0, g1, g3⟩ := HG.out.cells3
              have gf := HG.out.frozen
              have gz := HG.out.lt
              have FIN : Hid (openP s = fin s k l cs) := by
                rw [HGO.out]; unfold openN; rw [HRD.out, Option.bind_some, HL.out]; congr 1
              obtain ⟨e, he⟩ : ∃ e, sealE (k : Int) (l : Int) cs = e := ⟨_, rfl⟩
              obtain ⟨t, ht⟩ : ∃ t, sealS (k : Int) (l : Int) cs = t := ⟨_, rfl⟩
              unfold fin at FIN
              rw [he, ht] at TS FIN
              have TS := Lib.hid TS
              clear he ht
              by_cases e0 : e = 0
              · subst e0
                by_cases ts : t = s
                · subst ts
                  have ANS : Hid (openP t = some (k, l, cs)) := by rw [FIN.out, if_pos ⟨rfl, rfl⟩]; exact Lib.hid rfl
                  go_wp2_with (go_at_call 27; refine TS.out.mono ?_; rintro e w1 ⟨rfl, hb⟩; have HR5 := HR.out.belowS hb; have HG5 := HG.out.belowS hb; obtain ⟨r0, r1, r2⟩ := HR5.cells3; have rf := HR5.frozen; have rz := HR5.lt; obtain ⟨q0, q1, q2⟩ := HG5.cells3; have qz := HG5.lt; have HB5 := Lib.hid (bel_step HB.out hb HB.out.size); have HS5 := Lib.hid (SSW.keep hb); clear HR5 HG5)
                  refine bodyPost_ret (v := .tuple #[.agg #[.int .i64 k, .int .i64 l, .slice A n c], .int .i64 0]) (by simp [results, Try.results31, go_sem, *]) rfl ?_
                  have far : ∀ o a, A = some a → a.block ≠ (⟨w.heap.size, o, none⟩ : Addr).block := fun o a e => by subst e; have := (HO.out.lt a.block rfl).1; simp; omega
                  exact open_some ANS.out HLEN.out (((HS5.out.far (far 0) _).far (far 1) _).far (far 2) _) (((HB5.out.setCell (by simp) _).setCell (by simp) _).setCell (by simp) _)
                · have ANS : Hid (openP s = none) := by rw [FIN.out, if_neg (fun h => ts h.2)]; exact Lib.hid rfl
                  have g6 := ba_ne ts
                  go_wp2_with (go_at_call 27; refine TS.out.mono ?_; rintro e w1 ⟨rfl, hb⟩; have HR5 := HR.out.belowS hb; obtain ⟨r0, r1, r2⟩ := HR5.cells3; have rf := HR5.frozen; have rz := HR5.lt; have HB5 := Lib.hid (bel_step HB.out hb HB.out.size); clear HR5)
                  refine bodyPost_ret (v := .tuple #[.agg #[.int .i64 0, .int .i64 0, .slice none 0 0], .int .i64 4]) (by simp [results, Try.results31, go_sem, *]) rfl ?_
                  exact open_none ANS.out (((HB5.out.setCell (by simp) _).setCell (by simp) _).setCell (by simp) _)
              · have ANS : Hid (openP s = none) := by rw [FIN.out, if_neg (fun h => e0 h.1)]; exact Lib.hid rfl
                have g5 : (e != (0 : Int)) = true := by simp [e0]
                go_wp2_with (go_at_call 27; refine TS.out.mono ?_; rintro e w1 ⟨rfl, hb⟩; have HR5 := HR.out.belowS hb; obtain ⟨r0, r1, r2⟩ := HR5.cells3; have rf := HR5.frozen; have rz := HR5.lt; have HB5 := Lib.hid (bel_step HB.out hb HB.out.size); clear HR5)
                refine bodyPost_ret (v := .tuple #[.agg #[.int .i64 0, .int .i64 0, .slice none 0 0], .int .i64 4]) (by simp [results, Try.results31, go_sem, *]) rfl ?_
                exact open_none ANS.out (((HB5.out.setCell (by simp) _).setCell (by simp) _).setCell (by simp) _)
    · have ANS := Lib.hid (openP_sum (s := s) (by rw [hx, hy]; exact h2))
      have g2 : ((x : Int) != (y : Int)) = true := by simp; omega
      clear hx hy
      obtain ⟨r0, r1, r2⟩ := HR0.out.cells3
      go_enter Try.func31, Try.ntmps31
      go_wp2_with fail
      refine wp_region_cls (_) (by kernel_rfl) (by kernel_rfl) (Cls.start _) ?_
      repeat
        first
          | go_big_quiet_skip
          | (go_big_quiet_want; (first | go_big_quiet_op | go_simp); first | go_big_quiet_on | (apply Exists.intro; refine ⟨fun w' hw' => ?_, ?_⟩; (· (first | (with_reducible exact rfl) | (first | (go_at_call 73; refine (T0.out _).mono ?_; rintro e w1 ⟨rfl, hb⟩; exact ⟨rfl, Cls.step hw' hb⟩) | (go_at_call 34; refine (HS0.out _).mono ?_; rintro e w1 ⟨rfl, rfl⟩; exact ⟨rfl, hw'⟩)) | (obtain ⟨hc, hf⟩ := hw'.facts; go_simp; first | done | (with_reducible exact rfl) | (with_reducible exact ⟨rfl, rfl⟩)))); go_big_quiet_on))
      refine wpQuiet_nil ?_
      intro wq hq
      have HR5 := HR0.out.belowS hq.bel
      obtain ⟨r0, r1, r2⟩ := HR5.cells3
      have rf := HR5.frozen
      have rz := HR5.lt
      have HB5 := Lib.hid (bel_step HB0.out hq.bel HB0.out.size)
      go_wp2_with fail
      refine bodyPost_ret (v := .tuple #[.agg #[.int .i64 0, .int .i64 0, .slice none 0 0], .int .i64 4]) (by simp [results, Try.results31, go_sem, *]) rfl ?_
      exact open_none ANS.out (((HB5.out.setCell (by simp) _).setCell (by simp) _).setCell (by simp) _)
  · have ANS := Lib.hid (openP_size h1)
    have g2 : ((s.size : Int) != 1024) = true := by simp; omega
    go_enter Try.func31, Try.ntmps31
    go_wp2_with fail
    refine wp_region_cls (_) (by kernel_rfl) (by kernel_rfl) (Cls.start _) ?_
    repeat
      first
        | go_big_quiet_skip
        | (go_big_quiet_want; (first | go_big_quiet_op | go_simp); first | go_big_quiet_on | (apply Exists.intro; refine ⟨fun w' hw' => ?_, ?_⟩; (· (first | (with_reducible exact rfl) | (fail) | (obtain ⟨hc, hf⟩ := hw'.facts; go_simp; first | done | (with_reducible exact rfl) | (with_reducible exact ⟨rfl, rfl⟩)))); go_big_quiet_on))
    refine wpQuiet_nil ?_
    intro wq hq
    have HR5 := HR0.out.belowS hq.bel
    obtain ⟨r0, r1, r2⟩ := HR5.cells3
    have rf := HR5.frozen
    have rz := HR5.lt
    have HB5 := Lib.hid (bel_step HB0.out hq.bel HB0.out.size)
    go_wp2_with fail
    refine bodyPost_ret (v := .tuple #[.agg #[.int .i64 0, .int .i64 0, .slice none 0 0], .int .i64 4]) (by simp [results, Try.results31, go_sem, *]) rfl ?_
    exact open_none ANS.out (((HB5.out.setCell (by simp) _).setCell (by simp) _).setCell (by simp) _)


end Go.Proofs.Ytlkkpgdgnnknpaa
