/-
  Reckon of the reference; Neg of value.
-/
import Derived.Test.YtlkkpgdgnnknpaaLong6
namespace Go.Proofs.Ytlkkpgdgnnknpaa
open Go.RowKit
open Go.BigFrame
attribute [local go_sem] OpGood goodUpon fillA Act.put

theorem sval_of (n : Int) : sval (decide (n < 0)) (digsOf n.natAbs) = n := by
  unfold sval; rw [digsOf_val]
  by_cases h : n < 0
  · rw [decide_eq_true h, if_pos rfl]; omega
  · rw [decide_eq_false h, if_neg (by simp)]; omega
theorem sval_not (m : Bool) (l : List Int) : sval (!m) l = - sval m l := by cases m <;> simp [sval]
theorem sval_times {m m' : Bool} {a b : List Int} (ha : Digs a) (hb : Digs b) : sval (!(m == m')) (timesGo a b b.length) = sval m a * sval m' b := by
  have := timesGo_val ha hb b.length
  rw [List.take_length] at this
  cases m <;> cases m' <;> simp [sval, this, Int.neg_mul, Int.mul_neg]

/-- a long number by value in memory from block B on -/
def LV (B : Nat) (w : World) (m : Bool) (l : List Int) (u : Value) : Prop := ∃ A n c, u = .agg #[.bool m, .slice A n c] ∧ n ≤ c ∧ c ≤ 9223372036854775807 ∧ IS w A n l ∧ Fresh B A
/-- a new block for a long number -/
def BV (B : Nat) (w : World) (u : Value) : Prop := ∃ g, u = .pointer (some ⟨g, 0, none⟩) ∧ Has w g 89 #[.bool false, .slice none 0 0] ∧ B ≤ g
def reckP (B : Nat) (p q : Value) (n n' : Int) : Nat → Value → World → Prop
  | 0, u, _ => u = p
  | 1, u, _ => u = .int .i64 n
  | 2, u, w => LV B w (decide (n < 0)) (digsOf n.natAbs) u
  | 3, u, _ => u = q
  | 4, u, _ => u = .int .i64 n'
  | 5, u, w => LV B w (decide (n' < 0)) (digsOf n'.natAbs) u
  | 6, u, w => BV B w u
  | 7, u, w => BV B w u
  | _, _, _ => True
theorem LV.keep {B : Nat} {w w' : World} {m : Bool} {l : List Int} {u : Value} (h : LV B w m l u) (hb : Below w.heap.size w w') : LV B w' m l u := by
  obtain ⟨A, n, c, e, h1, h2, h3, h4⟩ := h
  exact ⟨A, n, c, e, h1, h2, h3.keep hb, h4⟩
theorem reckP_stable (B : Nat) (p q : Value) (n n' : Int) : ∀ j u (w w' : World), Below w.heap.size w w' → reckP B p q n n' j u w → reckP B p q n n' j u w'
  | 0, _, _, _, _, h => h
  | 1, _, _, _, _, h => h
  | 2, _, _, _, hb, h => LV.keep h hb
  | 3, _, _, _, _, h => h
  | 4, _, _, _, _, h => h
  | 5, _, _, _, hb, h => LV.keep h hb
  | 6, _, _, _, hb, ⟨g, e, h, l⟩ => ⟨g, e, h.belowS hb, l⟩
  | 7, _, _, _, hb, ⟨g, e, h, l⟩ => ⟨g, e, h.belowS hb, l⟩
  | _ + 8, _, _, _, _, _ => trivial
def sliceOwn : Value → Option Nat
  | .slice (some a) (_ + 1) _ => some a.block
  | _ => none
def aggOwn : Value → Option Nat
  | .agg cs => sliceOwn (cs.getD 1 undef)
  | _ => none
def reckOwn : Nat → Value → Option Nat := fun j u =>
  if j = 6 ∨ j = 7 then (match u with | .pointer (some a) => some a.block | _ => none)
  else if j = 2 ∨ j = 5 then aggOwn u else none
theorem LV.lt {B : Nat} {w : World} {m : Bool} {l : List Int} {u : Value} (h : LV B w m l u) {b : Nat} (j : Nat) (hj : j = 2 ∨ j = 5) (hb : reckOwn j u = some b) : b < w.heap.size ∧ B ≤ b := by
  obtain ⟨A, n, c, rfl, h1, h2, h3, h4⟩ := h
  have h6 : ¬ (j = 6 ∨ j = 7) := by omega
  simp only [reckOwn, if_neg h6, if_pos hj] at hb
  have hb' : sliceOwn (.slice A n c) = some b := hb
  cases A with
  | none => simp [sliceOwn] at hb'
  | some a =>
    cases n with
    | zero => simp [sliceOwn] at hb'
    | succ n =>
      simp [sliceOwn] at hb'
      subst hb'
      obtain ⟨b, off, hA, hl, _⟩ := h3.2 (by omega)
      refine ⟨by cases hA; exact hl, h4 a rfl⟩
theorem reckP_own (B : Nat) (p q : Value) (n n' : Int) : ∀ j u (w : World), reckP B p q n n' j u w → ∀ c, reckOwn j u = some c → c < w.heap.size
  | 2, _, _, h, c, hc => (LV.lt h 2 (.inl rfl) hc).1
  | 5, _, _, h, c, hc => (LV.lt h 5 (.inr rfl) hc).1
  | 6, _, _, ⟨g, h, r, hB⟩, c, hc => by subst h; simp [reckOwn] at hc; subst hc; exact r.lt
  | 7, _, _, ⟨g, h, r, hB⟩, c, hc => by subst h; simp [reckOwn] at hc; subst hc; exact r.lt
  | 0, _, _, _, c, hc => by simp [reckOwn] at hc
  | 1, _, _, _, c, hc => by simp [reckOwn] at hc
  | 3, _, _, _, c, hc => by simp [reckOwn] at hc
  | 4, _, _, _, c, hc => by simp [reckOwn] at hc
  | _ + 8, _, _, _, c, hc => by simp [reckOwn] at hc
theorem long_LV {w w' : World} {m : Bool} {l : List Int} {e : Ending} (h : LongPost w m l e w') : ∃ u, e = .returned u ∧ Below w.heap.size w w' ∧ LV w.heap.size w' m l u := by
  obtain ⟨A, n, c, rfl, h1, h2, h3, h4, h5⟩ := h
  exact ⟨_, rfl, h5, A, n, c, rfl, h1, h2, h3, h4⟩
theorem LV.low {B B' : Nat} {w : World} {m : Bool} {l : List Int} {u : Value} (h : LV B w m l u) (hB : B' ≤ B) : LV B' w m l u := by
  obtain ⟨A, n, c, e, h1, h2, h3, h4⟩ := h
  exact ⟨A, n, c, e, h1, h2, h3, fun a ha => Nat.le_trans hB (h4 a ha)⟩
/-- a slice's memory is not block g -/
def Off1 (A : Option Addr) (n g : Nat) : Prop := ∀ b off, A = some ⟨b, off, none⟩ → 0 < n → b ≠ g
theorem IS.off {w : World} {l : List Int} {A : Option Addr} {n : Nat} (h : IS w A n l) (p : Addr) (x : Value) (hp : Off1 A n p.block) : IS (w.setCell p x) A n l := by
  refine ⟨h.1, fun hn => ?_⟩
  obtain ⟨b, off, hA, hl, hc⟩ := h.2 hn
  refine ⟨b, off, hA, by simpa using hl, fun i v hv => ?_⟩
  rw [World.cell?_of_block (a := ⟨b, off + i, none⟩) (Below.heap_setCell w p x b (hp _ _ hA hn))]
  exact hc i v hv
/-- two long numbers in blocks of their own -/
def RS (w : World) (a b : Array Value) (n n' : Int) (p1 p2 : Value) (wx : World) : Prop :=
  ∃ g1 g2 A k c A' k' c', p1 = .pointer (some ⟨g1, 0, none⟩) ∧ p2 = .pointer (some ⟨g2, 0, none⟩) ∧ Has wx g1 89 #[.bool (decide (n < 0)), .slice A k c] ∧ Has wx g2 89 #[.bool (decide (n' < 0)), .slice A' k' c'] ∧
    IS wx A k (digsOf n.natAbs) ∧ IS wx A' k' (digsOf n'.natAbs) ∧ g1 ≠ g2 ∧ w.heap.size + 3 ≤ g1 ∧ w.heap.size + 3 ≤ g2 ∧ Off1 A k g2 ∧ Off1 A' k' g2 ∧ Below w.heap.size w wx ∧
    Has wx w.heap.size 29 a ∧ Has wx (w.heap.size + 1) 29 b ∧ Has wx (w.heap.size + 1 + 1) 29 #[.int .i64 0, .int .i64 0, .string ⟨#[]⟩]

theorem rs_end {w wx : World} {a b : Array Value} {n n' : Int} {g1 g2 k c k' c' : Nat} {A A' : Option Addr} {x y x' y' : Value} (hb : Box3 w wx 29 a b #[.int .i64 0, .int .i64 0, .string ⟨#[]⟩])
    (H1 : Has wx g1 89 #[x, y]) (H2 : Has wx g2 89 #[x', y']) (h1 : IS wx A k (digsOf n.natAbs)) (h2 : IS wx A' k' (digsOf n'.natAbs)) (hg : g1 ≠ g2) (G1 : w.heap.size + 3 ≤ g1) (G2 : w.heap.size + 3 ≤ g2) (o1 : Off1 A k g1) (o2 : Off1 A k g2) (o1' : Off1 A' k' g1) (o2' : Off1 A' k' g2) :
    RS w a b n n' (.pointer (some ⟨g1, 0, none⟩)) (.pointer (some ⟨g2, 0, none⟩)) ((((wx.setCell ⟨g1, 0, none⟩ (.bool (decide (n < 0)))).setCell ⟨g1, 1, none⟩ (.slice A k c)).setCell ⟨g2, 0, none⟩ (.bool (decide (n' < 0)))).setCell ⟨g2, 1, none⟩ (.slice A' k' c')) := by
  refine ⟨g1, g2, A, k, c, A', k', c', rfl, rfl, (H1.set2.far (by simpa using hg) _).far (by simpa using hg) _, ((H2.far (by simpa using Ne.symm hg) _).far (by simpa using Ne.symm hg) _).set2, ?_, ?_, hg, G1, G2, o2, o2', ?_, ?_, ?_, ?_⟩
  · exact (((h1.off _ _ (by exact o1)).off _ _ (by exact o1)).off _ _ (by exact o2)).off _ _ (by exact o2)
  · exact (((h2.off _ _ (by exact o1')).off _ _ (by exact o1')).off _ _ (by exact o2')).off _ _ (by exact o2')
  · exact (((hb.1.setCell (by simp; omega) _).setCell (by simp; omega) _).setCell (by simp; omega) _).setCell (by simp; omega) _
  · exact (((hb.2.1.far (by simp; omega) _).far (by simp; omega) _).far (by simp; omega) _).far (by simp; omega) _
  · exact (((hb.2.2.1.far (by simp; omega) _).far (by simp; omega) _).far (by simp; omega) _).far (by simp; omega) _
  · exact (((hb.2.2.2.far (by simp; omega) _).far (by simp; omega) _).far (by simp; omega) _).far (by simp; omega) _

set_option maxRecDepth 100000 in
set_option maxHeartbeats 6400000 in
theorem ref_Reckon (op k n : Int) (s : ByteArray) (k' n' : Int) (s' : ByteArray) (hn : inI n) (hn' : inI n') (w : World) :
    Calls Try.prog 38 #[.int .i64 op, .agg #[.int .i64 k, .int .i64 n, .string s], .agg #[.int .i64 k', .int .i64 n', .string s']] w fun e w' => e = .returned (.agg #[.int .i64 (recK (reckV op k n k' n')), .int .i64 (recN (reckV op k n k' n')), .string ⟨#[]⟩]) ∧ Below w.heap.size w w' := by
  by_cases h2 : k = 2
  · subst h2
    by_cases h2' : k' = 2
    · subst h2'
      have he : reckV op 2 n 2 n' = reckO op n n' := rfl
      rw [he]
      clear he
      have L1 := Lib.hid (fun w1 => ref_longOf n hn w1)
      have L2 := Lib.hid (fun w1 => ref_longOf n' hn' w1)
      have B3 := Lib.hid (Box3.start w 29 #[.int .i64 2, .int .i64 n, .string s] #[.int .i64 2, .int .i64 n', .string s'] #[.int .i64 0, .int .i64 0, .string ⟨#[]⟩])
      have HN := Lib.hid (And.intro hn hn')
      clear hn hn'
      go_enter Try.func38, Try.ntmps38
      go_wp2_with fail
      generalize (((w.alloc (.cells #[.int .i64 2, .int .i64 n, .string s] 29)).alloc (.cells #[.int .i64 2, .int .i64 n', .string s'] 29)).alloc (.cells #[.int .i64 0, .int .i64 0, .string ⟨#[]⟩] 29)) = W at *
      go_cut [7, 8] (fun s7 s8 wx => RS w #[.int .i64 2, .int .i64 n, .string s] #[.int .i64 2, .int .i64 n', .string s'] n n' s7 s8 wx)
      case first =>
        obtain ⟨a0, a1, a2⟩ := B3.out.2.1.cells3
        obtain ⟨b0, b1, b2⟩ := B3.out.2.2.1.cells3
        have z1 := B3.out.2.1.lt
        have z2 := B3.out.2.2.1.lt
        have z3 := B3.out.2.2.2.lt
        refine wp_region_own 8 (Cls (W)) (reckP (w.heap.size + 3) (.pointer (some ⟨w.heap.size, 1, none⟩)) (.pointer (some ⟨w.heap.size + 1, 1, none⟩)) n n') (reckOwn) (by kernel_rfl) (by kernel_rfl) (by kernel_rfl) (fun _ _ hC hb => Cls.step hC hb) ?hst (Cls.start _) ?hown ?hund ?hops ?hend
        case hst => exact reckP_stable _ _ _ _ _
        case hown => exact reckP_own _ _ _ _ _
        case hund =>
          intro j
          unfold reckOwn
          split
          · rfl
          · split
            · rfl
            · rfl
        case hops =>
          intro us wx hus hC
          obtain ⟨u0, u1, u2, u3, u4, u5, u6, u7, rfl⟩ : ∃ u0 u1 u2 u3 u4 u5 u6 u7, us = [u0, u1, u2, u3, u4, u5, u6, u7] := by
            match us, hus with
            | [u0, u1, u2, u3, u4, u5, u6, u7], _ => exact ⟨u0, u1, u2, u3, u4, u5, u6, u7, rfl⟩
          clear hus
          simp only [fillA, Act.put, List.take_succ_cons, List.take_zero, List.setIfInBounds_toArray, List.set_cons_zero, List.set_cons_succ]
          refine ⟨fun h => ?_, fun h => ?_, fun h => ?_, fun h => ?_, fun h => ?_, fun h => ?_, fun h => ?_, fun h => ?_, trivial⟩
          · clear h; refine good_own rfl ?_; go_simp; exact ⟨Below.refl _ _, rfl, fun b hb => by cases hb⟩
          · obtain rfl := h 0 rfl
            (clear h; refine good_own rfl ?_; obtain ⟨hc, hf⟩ := hC.facts; go_simp; exact ⟨Below.refl _ _, rfl, fun b hb => by cases hb⟩)
          · obtain rfl := h 1 rfl
            have hle := hC.bel.size
            clear h; refine good_own rfl ?_; go_simp
            refine (L1.out _).mono ?_
            intro e w2 hp
            obtain ⟨u, he, hb, hi⟩ := long_LV hp
            exact ⟨u, he, hb, hi.low (by omega), fun b hb => (LV.lt hi 2 (.inl rfl) hb).2⟩
          · clear h; refine good_own rfl ?_; go_simp; exact ⟨Below.refl _ _, rfl, fun b hb => by cases hb⟩
          · obtain rfl := h 3 rfl
            (clear h; refine good_own rfl ?_; obtain ⟨hc, hf⟩ := hC.facts; go_simp; exact ⟨Below.refl _ _, rfl, fun b hb => by cases hb⟩)
          · obtain rfl := h 4 rfl
            have hle := hC.bel.size
            clear h; refine good_own rfl ?_; go_simp
            refine (L2.out _).mono ?_
            intro e w2 hp
            obtain ⟨u, he, hb, hi⟩ := long_LV hp
            exact ⟨u, he, hb, hi.low (by omega), fun b hb => (LV.lt hi 5 (.inr rfl) hb).2⟩
          · have hle := hC.bel.size
            clear h; refine good_own rfl ?_; go_simp; exact ⟨below_mk _ _, ⟨_, rfl, Has.new _ _ _, by omega⟩, fun b hb => by cases hb; exact Nat.le_refl _⟩
          · have hle := hC.bel.size
            clear h; refine good_own rfl ?_; go_simp; exact ⟨below_mk _ _, ⟨_, rfl, Has.new _ _ _, by omega⟩, fun b hb => by cases hb; exact Nat.le_refl _⟩
        case hend =>
          intro us wx hus hC
          obtain ⟨u0, u1, u2, u3, u4, u5, u6, u7, rfl⟩ : ∃ u0 u1 u2 u3 u4 u5 u6 u7, us = [u0, u1, u2, u3, u4, u5, u6, u7] := by
            match us, hus with
            | [u0, u1, u2, u3, u4, u5, u6, u7], _ => exact ⟨u0, u1, u2, u3, u4, u5, u6, u7, rfl⟩
          clear hus
          intro hall
          obtain ⟨h0, h1, h2, h3, h4, h5, h6, h7, _⟩ := hall
          intro hne
          obtain ⟨A, k, c, rfl, q1, q2, q3, q4⟩ := h2
          obtain ⟨A', k', c', rfl, q1', q2', q3', q4'⟩ := h5
          obtain ⟨g1, rfl, H1, G1⟩ := h6
          obtain ⟨g2, rfl, H2, G2⟩ := h7
          have hg : g1 ≠ g2 := fun e => hne 6 7 g1 (by simp) (by simp) (by decide) rfl (by rw [e]; rfl)
          have o1 : Off1 A k g1 := fun b off hA hk e => hne 2 6 b (by simp) (by simp) (by decide) (by subst hA; obtain ⟨k, rfl⟩ : ∃ j, k = j + 1 := ⟨k - 1, by omega⟩; rfl) (by rw [e]; rfl)
          have o2 : Off1 A k g2 := fun b off hA hk e => hne 2 7 b (by simp) (by simp) (by decide) (by subst hA; obtain ⟨k, rfl⟩ : ∃ j, k = j + 1 := ⟨k - 1, by omega⟩; rfl) (by rw [e]; rfl)
          have o1' : Off1 A' k' g1 := fun b off hA hk e => hne 5 6 b (by simp) (by simp) (by decide) (by subst hA; obtain ⟨k, rfl⟩ : ∃ j, k' = j + 1 := ⟨k' - 1, by omega⟩; rfl) (by rw [e]; rfl)
          have o2' : Off1 A' k' g2 := fun b off hA hk e => hne 5 7 b (by simp) (by simp) (by decide) (by subst hA; obtain ⟨k, rfl⟩ : ∃ j, k' = j + 1 := ⟨k' - 1, by omega⟩; rfl) (by rw [e]; rfl)
          have hbx := B3.out.step hC.bel
          have HE := Lib.hid (rs_end (c := c) (c' := c') hbx H1 H2 q3 q3' hg G1 G2 o1 o2 o1' o2')
          have y1 := H1.lt
          have y2 := H2.lt
          have y3 := H1.frozen
          have y4 := H2.frozen
          obtain ⟨p0, p1⟩ := H1.cells2
          obtain ⟨p3, p4⟩ := H2.cells2
          clear h0 h1 h3 h4 hne hC q3 q4 q3' q4' o1 o2 o1' o2' hbx a0 a1 a2 b0 b1 b2 z1 z2 z3 L1 L2
          go_wp2_with fail
          go_meet
          exact HE.out
      case rest =>
        obtain ⟨g1, g2, A, k, c, A', k', c', rfl, rfl, H1, H2, I1, I2, hg, G1, G2, O2, O2', hbel, K1, K2, HR⟩ := hcut
        clear L1 L2
        obtain ⟨hn, hn'⟩ := HN.out
        have D1 := digsOf_digs n.natAbs; have D2 := digsOf_digs n'.natAbs
        have C1 := digsOf_canon n.natAbs; have C2 := digsOf_canon n'.natAbs
        have E1 := digs_len hn; have E2 := digs_len hn'
        have V1 := sval_of n; have V2 := sval_of n'
        rw [I1.1] at E1
        rw [I2.1] at E2
        have KL := I2.1
        obtain ⟨m, hm⟩ : ∃ m, decide (n < 0) = m := ⟨_, rfl⟩
        obtain ⟨m', hm'⟩ : ∃ m, decide (n' < 0) = m := ⟨_, rfl⟩
        obtain ⟨l, hl⟩ : ∃ l, digsOf n.natAbs = l := ⟨_, rfl⟩
        obtain ⟨l', hl'⟩ : ∃ l, digsOf n'.natAbs = l := ⟨_, rfl⟩
        rw [hm] at H1 V1
        rw [hm'] at H2 V2
        rw [hl] at I1 D1 C1 V1
        rw [hl'] at I2 D2 C2 V2 KL
        have DV := Lib.hid (fun w1 => ref_divided 8 n n' hn hn' w1)
        have DW := Lib.hid (fun w1 => ref_divided 9 n n' hn hn' w1)
        obtain ⟨u0, u1⟩ := H1.cells2
        obtain ⟨v0, v1⟩ := H2.cells2
        have vf := H2.frozen
        have uz := H1.lt
        have vz := H2.lt
        obtain ⟨r0, r1, r2⟩ := HR.cells3
        have rf := HR.frozen
        have rz := HR.lt
        obtain ⟨a0, a1, a2⟩ := K1.cells3
        obtain ⟨b0, b1, b2⟩ := K2.cells3
        have hgn : ¬ g2 = g1 := fun e => hg e.symm
        have P5 := Lib.hid (ref_plus m m' A A' k k' c c' l l' wc I1 I2 D1 D2 (by omega))
        have P6 := Lib.hid (ref_plus m (!m') A A' k k' c c' l l' (wc.setCell ⟨g2, 0, none⟩ (.bool (!m'))) (I1.off _ _ (by exact O2)) (I2.off _ _ (by exact O2')) D1 D2 (by omega))
        have P7 := Lib.hid (ref_times m m' A A' k k' c c' l l' wc I1 I2 D1 D2 (by omega))
        have S5 : sval (plusM m l m' l') (plusD m l m' l') = n + n' := by rw [plus_val D1 D2 C1 C2, V1, V2]
        have S6 : sval (plusM m l (!m') l') (plusD m l (!m') l') = n - n' := by rw [plus_val D1 D2 C1 C2, sval_not, V1, V2]; omega
        have S7 : sval (!(m == m')) (timesGo l l' k') = n * n' := by rw [← KL, sval_times D1 D2, V1, V2]
        have VV : ∀ (mm : Bool) (ll : List Int) (x : Int), sval mm ll = x → Digs ll → Canon ll → ∀ w1 A2 n2 c2, IS w1 A2 n2 ll → n2 ≤ c2 → c2 ≤ 9223372036854775807 → Calls Try.prog 80 #[.agg #[.bool mm, .slice A2 n2 c2]] w1 fun e w' => e = .returned (.agg #[.int .i64 (recK (fitO x)), .int .i64 (recN (fitO x)), .string ⟨#[]⟩]) ∧ Below w1.heap.size w1 w' := fun mm ll x hx hd hcn w1 A2 n2 c2 hi h1 h2 => by
          have := ref_value mm A2 n2 c2 ll w1 hi hd hcn (by omega)
          rw [hx] at this; exact this
        have VV5 := Lib.hid (VV _ _ _ S5 (plusD_digs _ _ _ _) (plusD_canon _ _ _ _))
        have VV6 := Lib.hid (VV _ _ _ S6 (plusD_digs _ _ _ _) (plusD_canon _ _ _ _))
        have VV7 := Lib.hid (VV _ _ _ S7 (timesGo_digs _ _ _) (timesGo_canon _ _ _))
        clear S5 S6 S7 VV V1 V2 KL D1 D2 C1 C2 hm hm' hl hl' I1 I2 E1 E2 HN hn hn' O2 O2' B3 hg H1 H2 K1 K2 HR
        generalize plusM m l m' l' = m5 at *
        generalize plusD m l m' l' = d5 at *
        generalize plusM m l (!m') l' = m6 at *
        generalize plusD m l (!m') l' = d6 at *
        generalize (!(m == m')) = m7 at *
        generalize timesGo l l' k' = d7 at *
        by_cases o5 : op = 5
        · subst o5
          clear DV DW
          have HE := Lib.hid (show reckO 5 n n' = fitO (n + n') from rfl)
          go_wp2_with (first | (go_at_call 79; refine P5.out.mono ?_; rintro e w1 ⟨A2, n2, c2, rfl, p1, p2, p3, p4, hb⟩; have P3 := Lib.hid p3; clear p3 p4; obtain ⟨hc, hf⟩ := bcell hb; have hz := hb.size; (try simp at hz)) | (go_at_call 80; refine (VV5.out _ _ _ _ P3.out p1 p2).mono ?_; rintro e w2 ⟨rfl, hb2⟩; obtain ⟨hc2, hf2⟩ := bcell hb2; have hz2 := hb2.size; have hz3 : w.heap.size + 1 + 1 < w1.heap.size := (by omega); have hz4 : w.heap.size + 1 + 1 < w2.heap.size := (by omega)))
          refine bodyPost_ret (v := .agg #[.int .i64 (recK (fitO (n + n'))), .int .i64 (recN (fitO (n + n'))), .string ⟨#[]⟩]) (by simp [results, Try.results38, go_sem, *]) rfl ⟨?_, ?_⟩
          · rw [HE.out]
          · (repeat (first | exact Below.refl _ _ | assumption | (refine Below.setCell ?_ (by first | omega | (simp <;> omega)) _) | refine Below.drew ?_ | (refine Below.alloc ?_ (by first | omega | (simp <;> omega)) _) | (refine bel_step ?_ (by assumption) (by first | omega | (simp <;> omega)))))
        have q5 : (op == 5) = false := beq_eq_false_iff_ne.2 o5
        by_cases o6 : op = 6
        · subst o6
          clear DV DW
          have HE := Lib.hid (show reckO 6 n n' = fitO (n - n') from rfl)
          go_wp2_with (first | (go_at_call 79; refine P6.out.mono ?_; rintro e w1 ⟨A2, n2, c2, rfl, p1, p2, p3, p4, hb⟩; have P3 := Lib.hid p3; clear p3 p4; obtain ⟨hc, hf⟩ := bcell hb; have hz := hb.size; (try simp at hz)) | (go_at_call 80; refine (VV6.out _ _ _ _ P3.out p1 p2).mono ?_; rintro e w2 ⟨rfl, hb2⟩; obtain ⟨hc2, hf2⟩ := bcell hb2; have hz2 := hb2.size; have hz3 : w.heap.size + 1 + 1 < w1.heap.size := (by omega); have hz4 : w.heap.size + 1 + 1 < w2.heap.size := (by omega)))
          refine bodyPost_ret (v := .agg #[.int .i64 (recK (fitO (n - n'))), .int .i64 (recN (fitO (n - n'))), .string ⟨#[]⟩]) (by simp [results, Try.results38, go_sem, *]) rfl ⟨?_, ?_⟩
          · rw [HE.out]
          · (repeat (first | exact Below.refl _ _ | assumption | (refine Below.setCell ?_ (by first | omega | (simp <;> omega)) _) | refine Below.drew ?_ | (refine Below.alloc ?_ (by first | omega | (simp <;> omega)) _) | (refine bel_step ?_ (by assumption) (by first | omega | (simp <;> omega)))))
        have q6 : (op == 6) = false := beq_eq_false_iff_ne.2 o6
        by_cases o7 : op = 7
        · subst o7
          clear DV DW
          have HE := Lib.hid (show reckO 7 n n' = fitO (n * n') from rfl)
          go_wp2_with (first | (go_at_call 81; refine P7.out.mono ?_; rintro e w1 ⟨A2, n2, c2, rfl, p1, p2, p3, p4, hb⟩; have P3 := Lib.hid p3; clear p3 p4; obtain ⟨hc, hf⟩ := bcell hb; have hz := hb.size; (try simp at hz)) | (go_at_call 80; refine (VV7.out _ _ _ _ P3.out p1 p2).mono ?_; rintro e w2 ⟨rfl, hb2⟩; obtain ⟨hc2, hf2⟩ := bcell hb2; have hz2 := hb2.size; have hz3 : w.heap.size + 1 + 1 < w1.heap.size := (by omega); have hz4 : w.heap.size + 1 + 1 < w2.heap.size := (by omega)))
          refine bodyPost_ret (v := .agg #[.int .i64 (recK (fitO (n * n'))), .int .i64 (recN (fitO (n * n'))), .string ⟨#[]⟩]) (by simp [results, Try.results38, go_sem, *]) rfl ⟨?_, ?_⟩
          · rw [HE.out]
          · (repeat (first | exact Below.refl _ _ | assumption | (refine Below.setCell ?_ (by first | omega | (simp <;> omega)) _) | refine Below.drew ?_ | (refine Below.alloc ?_ (by first | omega | (simp <;> omega)) _) | (refine bel_step ?_ (by assumption) (by first | omega | (simp <;> omega)))))
        have q7 : (op == 7) = false := beq_eq_false_iff_ne.2 o7
        by_cases o8 : op = 8
        · subst o8
          have HE := Lib.hid (show reckO 8 n n' = divO 8 n n' from rfl)
          go_wp2_with (go_at_call 82; refine (DV.out _).mono ?_; rintro e w1 ⟨rfl, hb⟩; obtain ⟨hc, hf⟩ := bcell hb; have hz := hb.size; have hz3 : w.heap.size + 1 + 1 < w1.heap.size := (by omega))
          refine bodyPost_ret (v := .agg #[.int .i64 (recK (divO 8 n n')), .int .i64 (recN (divO 8 n n')), .string ⟨#[]⟩]) (by simp [results, Try.results38, go_sem, *]) rfl ⟨?_, ?_⟩
          · rw [HE.out]
          · (repeat (first | exact Below.refl _ _ | assumption | (refine Below.setCell ?_ (by first | omega | (simp <;> omega)) _) | refine Below.drew ?_ | (refine Below.alloc ?_ (by first | omega | (simp <;> omega)) _) | (refine bel_step ?_ (by assumption) (by first | omega | (simp <;> omega)))))
        have q8 : (op == 8) = false := beq_eq_false_iff_ne.2 o8
        by_cases o9 : op = 9
        · subst o9
          have HE := Lib.hid (show reckO 9 n n' = divO 9 n n' from rfl)
          go_wp2_with (go_at_call 82; refine (DW.out _).mono ?_; rintro e w1 ⟨rfl, hb⟩; obtain ⟨hc, hf⟩ := bcell hb; have hz := hb.size; have hz3 : w.heap.size + 1 + 1 < w1.heap.size := (by omega))
          refine bodyPost_ret (v := .agg #[.int .i64 (recK (divO 9 n n')), .int .i64 (recN (divO 9 n n')), .string ⟨#[]⟩]) (by simp [results, Try.results38, go_sem, *]) rfl ⟨?_, ?_⟩
          · rw [HE.out]
          · (repeat (first | exact Below.refl _ _ | assumption | (refine Below.setCell ?_ (by first | omega | (simp <;> omega)) _) | refine Below.drew ?_ | (refine Below.alloc ?_ (by first | omega | (simp <;> omega)) _) | (refine bel_step ?_ (by assumption) (by first | omega | (simp <;> omega)))))
        have q9 : (op == 9) = false := beq_eq_false_iff_ne.2 o9
        have HE := Lib.hid (show reckO op n n' = none by simp [reckO, o5, o6, o7, o8, o9])
        clear o5 o6 o7 o8 o9
        go_wp2_with (go_at_call 68; refine (relstoreref_null _).mono ?_; rintro e w1 ⟨rfl, hb⟩; obtain ⟨hc, hf⟩ := bcell hb; have hz := hb.size; have hz3 : w.heap.size + 1 + 1 < w1.heap.size := (by omega))
        refine bodyPost_ret (v := .agg #[.int .i64 0, .int .i64 0, .string ⟨#[]⟩]) (by simp [results, Try.results38, go_sem, *]) rfl ⟨?_, ?_⟩
        · rw [HE.out]; rfl
        · (repeat (first | exact Below.refl _ _ | assumption | (refine Below.setCell ?_ (by first | omega | (simp <;> omega)) _) | refine Below.drew ?_ | (refine Below.alloc ?_ (by first | omega | (simp <;> omega)) _) | (refine bel_step ?_ (by assumption) (by first | omega | (simp <;> omega)))))
    · have HE := Lib.hid (show reckV op 2 n k' n' = none by unfold reckV; rw [if_neg (fun h => h2' h.2)])
      have g' : (k' != 2) = true := bne_iff_ne.2 h2'
      clear hn hn' h2'
      go_enter Try.func38, Try.ntmps38
      go_wp2_with (go_at_call 68; refine (relstoreref_null _).mono ?_; rintro e w1 ⟨rfl, hb⟩; obtain ⟨hc, hf⟩ := bcell hb; have hz := hb.size; (try simp at hz); have hz0 : w.heap.size < w1.heap.size := (by omega); have hz1 : w.heap.size + 1 < w1.heap.size := (by omega); have hz2 : w.heap.size + 2 < w1.heap.size := (by omega))
      refine bodyPost_ret (v := .agg #[.int .i64 0, .int .i64 0, .string ⟨#[]⟩]) (by simp [results, Try.results38, go_sem, *]) rfl ⟨?_, ?_⟩
      · rw [HE.out]; rfl
      · (repeat (first | exact Below.refl _ _ | assumption | (refine Below.setCell ?_ (by first | omega | (simp <;> omega)) _) | refine Below.drew ?_ | (refine Below.alloc ?_ (by first | omega | (simp <;> omega)) _) | (refine bel_step ?_ (by assumption) (by first | omega | (simp <;> omega)))))
  · have HE := Lib.hid (show reckV op k n k' n' = none by unfold reckV; rw [if_neg (fun h => h2 h.1)])
    have g : (k != 2) = true := bne_iff_ne.2 h2
    clear hn hn' h2
    go_enter Try.func38, Try.ntmps38
    go_wp2_with (go_at_call 68; refine (relstoreref_null _).mono ?_; rintro e w1 ⟨rfl, hb⟩; obtain ⟨hc, hf⟩ := bcell hb; have hz := hb.size; (try simp at hz); have hz0 : w.heap.size < w1.heap.size := (by omega); have hz1 : w.heap.size + 1 < w1.heap.size := (by omega); have hz2 : w.heap.size + 2 < w1.heap.size := (by omega))
    refine bodyPost_ret (v := .agg #[.int .i64 0, .int .i64 0, .string ⟨#[]⟩]) (by simp [results, Try.results38, go_sem, *]) rfl ⟨?_, ?_⟩
    · rw [HE.out]; rfl
    · (repeat (first | exact Below.refl _ _ | assumption | (refine Below.setCell ?_ (by first | omega | (simp <;> omega)) _) | refine Below.drew ?_ | (refine Below.alloc ?_ (by first | omega | (simp <;> omega)) _) | (refine bel_step ?_ (by assumption) (by first | omega | (simp <;> omega)))))

end Go.Proofs.Ytlkkpgdgnnknpaa
