/-
  times of the reference's long numbers.
-/
import Derived.Test.YtlkkpgdgnnknpaaDoorLong5
import Derived.Laws.MakeOwn
namespace Go.Proofs.YtlkkpgdgnnknpaaDoor
open Go.RowKit
set_option linter.unusedVariables false
set_option linter.unusedSimpArgs false
open Go.BigFrame
attribute [local go_sem] OpGood goodUpon fillA Act.put

theorem own_below {w w' : World} {base : Nat} {e : TypeId} {size : Nat} {v : Value} {n : Nat} {xs : List Value} (h : w.ownsRow base e size v n xs) (hb : Below w.heap.size w w') : w'.ownsRow base e size v n xs := by
  refine ⟨h.1, ?_⟩
  rcases h.2 with h | ⟨g, cap, cur, hv, hbg, hg, r⟩
  · exact .inl h
  · exact .inr ⟨g, cap, cur, hv, hbg, (hb.block g (Array.getElem?_eq_some_iff.1 hg).1).trans hg, r⟩
theorem made_list (i : Nat) : (madeCells #[Value.int .i64 0] i).toList = ints (List.replicate i 0) := by
  rw [show ints (List.replicate i 0) = List.replicate i (Value.int .i64 0) by simp [ints]]
  refine List.eq_replicate_iff.2 ⟨by simp [size_madeCells], fun b hb => ?_⟩
  simp only [madeCells, Array.toList_map, List.mem_map] at hb
  obtain ⟨a, _, rfl⟩ := hb
  show (#[Value.int .i64 0] : Array Value)[a % 1]! = _
  rw [Nat.mod_one]; rfl
theorem make_ints (i : Nat) (hi : i ≤ 17592186044416) (w : World) : (Instr.makeSlice 80 (.int .i64 i) (.int .i64 i)).run Tryd.prog w = .ok (.slice (some ⟨w.heap.size, 0, none⟩) i i) (w.alloc (.cells (madeCells #[.int .i64 0] i) 3)) := by
  obtain ⟨i0, hi0, hz0, hz1, hz2⟩ := info_parts infoInt
  have := run_make (P := Tryd.prog) w 80 3 i0 _ Tryd.underlying80 hi0 hz0 .i64 .i64 (i : Int) (i : Int) (by omega) (by omega) (by rw [hz2]; omega) (by omega)
  rw [hz1, show (Value.int .i64 0).cells = #[.int .i64 0] from rfl] at this
  simpa using this
theorem made_own (i : Nat) (hi : i ≤ 17592186044416) (w : World) {B : Nat} (hB : B ≤ w.heap.size) : (w.alloc (.cells (madeCells #[.int .i64 0] i) 3)).ownsRow B 3 1 (.slice (some ⟨w.heap.size, 0, none⟩) i i) i (ints (List.replicate i 0)) := by
  refine ⟨by simp [ints], .inr ⟨w.heap.size, i, madeCells #[.int .i64 0] i, rfl, hB, heap_alloc_new w _, Nat.le_refl _, by unfold maxLen; omega, by simp [size_madeCells], ?_⟩⟩
  rw [made_list, List.take_of_length_le (by simp [ints])]


theorem good_append {P : Program} {R : Value → World → Prop} {o : Oper} {a : Act} {w : World} (s x : Operand) (t tx : TypeId) (ho : o.op = .call { callee := .builtin .append, args := #[s, x], argTypes := #[t, tx] }) (v y : Value) (hs : a.eval s = v) (hx : a.eval x = y)
    {v' : Value} {w' : World} (hr : (Builtin.append_ #[t, tx] o.type #[v, y]).run P w = .ok v' w') (h : R v' w') : goodUpon P R ((execOp a.eval o).run P w) := by
  unfold execOp
  simp only [ho, resolve, invoke, builtin, Sem.run_bind, Sem.run_pure, Result.andThen_ok, List.map_toArray, List.map_cons, List.map_nil, hs, hx, hr]
  exact h
def timesP (B : Nat) (p1 p2 v : Value) (va : Value) (i : Nat) (x : Int) (l r : List Int) : Nat → Value → World → Prop
  | 0, u, _ => u = p1
  | 1, u, _ => u = v
  | 2, u, _ => u = .int .i64 i
  | 3, u, w => ∃ g, u = .slice (some ⟨g, 0, none⟩) i i ∧ w.ownsRow B 3 1 (.slice (some ⟨g, 0, none⟩) i i) i (ints (List.replicate i 0))
  | 4, u, _ => u = p2
  | 5, u, _ => u = va
  | 6, u, w => IV B w (List.replicate i 0 ++ l) u
  | 7, u, _ => u = .int .i64 x
  | 8, u, w => IV B w r u
  | 9, u, _ => u = p1
  | _, _, _ => True
theorem timesP_stable (B : Nat) (p1 p2 v : Value) (va : Value) (i : Nat) (x : Int) (l r : List Int) : ∀ j u (w w' : World), Below w.heap.size w w' → timesP B p1 p2 v va i x l r j u w → timesP B p1 p2 v va i x l r j u w'
  | 0, _, _, _, _, h => h
  | 1, _, _, _, _, h => h
  | 2, _, _, _, _, h => h
  | 3, _, _, _, hb, ⟨g, e, h⟩ => ⟨g, e, own_below h hb⟩
  | 4, _, _, _, _, h => h
  | 5, _, _, _, _, h => h
  | 6, _, _, _, hb, h => h.keep hb
  | 7, _, _, _, _, h => h
  | 8, _, _, _, hb, h => h.keep hb
  | 9, _, _, _, _, h => h
  | _ + 10, _, _, _, _, _ => trivial
/-- the state of the loop of times -/
def TL (w : World) (a b : Array Value) (m : Bool) (r : List Int) (wr : World) : Prop :=
  Below w.heap.size w wr ∧ Has wr w.heap.size 82 a ∧ Has wr (w.heap.size + 1) 82 b ∧ Has wr (w.heap.size + 1 + 1) 82 #[.bool false, .slice none 0 0] ∧
  ∃ v, Has wr (w.heap.size + 1 + 1 + 1) 82 #[.bool m, v] ∧ IV (w.heap.size + 4) wr r v
theorem TL.step {w wr wx : World} {a b : Array Value} {m : Bool} {r : List Int} {v : Value} {A : Option Addr} {n c : Nat} (hb : Below w.heap.size w wr) (hX : Has wr w.heap.size 82 a) (hY : Has wr (w.heap.size + 1) 82 b) (hR : Has wr (w.heap.size + 1 + 1) 82 #[.bool false, .slice none 0 0])
    (hC : Below wr.heap.size wr wx) (hO : Has wx (w.heap.size + 1 + 1 + 1) 82 #[.bool m, v]) (h3 : IS wx A n r) (h4 : Fresh (w.heap.size + 4) A) (h1 : n ≤ c) (h2 : c ≤ 9223372036854775807) :
    TL w a b m r (wx.setCell ⟨w.heap.size + 1 + 1 + 1, 1, none⟩ (.slice A n c)) :=
  ⟨(bel_step hb hC hb.size).setCell (by simp; omega) _, (hX.belowS hC).far (by first | (simp; done) | (simp; omega)) _, (hY.belowS hC).far (by first | (simp; done) | (simp; omega)) _, (hR.belowS hC).far (by first | (simp; done) | (simp; omega)) _, _, hO.set 1 _, A, n, c, rfl, h1, h2, h3.far h4 _ _ (by simp), h4⟩
theorem jointD_len (a b : List Int) (t : Int) : (jointD a b t).length ≤ jointN a b := by
  unfold jointD
  obtain ⟨k, hk, e⟩ := cutD_take (jointGo a b t (jointN a b)).1
  rw [e, List.length_take, jointGo_len]; omega
/-- a product's digits are no more than those of both -/
theorem timesGo_len {a b : List Int} (ha : Digs a) (hb : Digs b) (i : Nat) : (timesGo a b i).length ≤ a.length + i := by
  by_cases hn : timesGo a b i = []
  · rw [hn]; simp
  · have h1 := canon_last (timesGo_digs a b i) (timesGo_canon a b i) hn
    rw [timesGo_val ha hb] at h1
    have h2 := valD_lt ha
    have h3 : valD (b.take i) < bp i := Int.lt_of_lt_of_le (valD_lt (hb.take i)) (bp_mono (by rw [List.length_take]; omega))
    have h4 := valD_nonneg ha
    have h5 := valD_nonneg (hb.take i)
    rcases Nat.lt_or_ge (a.length + i) (timesGo a b i).length with hl | hl
    · exfalso
      have h6 := bp_mono (show a.length + i ≤ (timesGo a b i).length - 1 by omega)
      have h7 : bp (a.length + i) = bp a.length * bp i := by
        clear h1 h2 h3 h4 h5 h6 hl hn
        generalize a.length = p
        induction p with
        | zero => simp [bp]
        | succ p ih => rw [show p + 1 + i = (p + i) + 1 by omega, bp, bp, ih, Int.mul_assoc]
      have h8 : valD a * valD (b.take i) < bp a.length * bp i := by
        have q1 : valD a * valD (b.take i) ≤ valD a * bp i := Int.mul_le_mul_of_nonneg_left (by omega) h4
        have q2 : (valD a + 1) * bp i ≤ bp a.length * bp i := Int.mul_le_mul_of_nonneg_right (by omega) (Int.le_of_lt (bp_pos i))
        rw [Int.add_mul] at q2
        have := bp_pos i
        omega
      omega
    · exact hl

set_option maxRecDepth 100000 in
set_option maxHeartbeats 6400000 in
theorem ref_times (m m' : Bool) (A A' : Option Addr) (n n' c c' : Nat) (l l' : List Int) (w : World) (h : IS w A n l) (h' : IS w A' n' l') (ha : Digs l) (hb : Digs l') (hN : (n + n' + n + n' + 4) * 8 ≤ 140737488355328) :
    Calls Tryd.prog 65 #[.agg #[.bool m, .slice A n c], .agg #[.bool m', .slice A' n' c']] w (LongPost w (!(m == m')) (timesGo l l' n')) := by
  have HI := Lib.hid h; have HI' := Lib.hid h'
  have HA := Lib.hid ha; have HBB := Lib.hid hb
  have LE := Lib.hid (fun i => timesGo_len ha hb i)
  have u1 : n ≤ 8796093022208 := by omega
  have u2 : n' ≤ 8796093022208 := by omega
  have HN := Lib.hid hN
  clear h h' ha hb hN
  obtain ⟨i0, hi0, hz0, hz1, hz2⟩ := info_parts infoInt
  obtain ⟨q, hq⟩ : ∃ q, (!(m == m')) = q := ⟨_, rfl⟩
  rw [hq]
  go_enter Tryd.func65, Tryd.ntmps65
  go_wp2_with fail
  have TL0 : TL w #[.bool m, .slice A n c] #[.bool m', .slice A' n' c'] q (timesGo l l' 0) ((((w.alloc (.cells #[.bool m, .slice A n c] 82)).alloc (.cells #[.bool m', .slice A' n' c'] 82)).alloc (.cells #[.bool false, .slice none 0 0] 82)).alloc (.cells #[.bool q, .slice none 0 0] 82)) := by
    have b3 := Box3.start w 82 #[.bool m, .slice A n c] #[.bool m', .slice A' n' c'] #[.bool false, .slice none 0 0]
    refine ⟨(b3.1.alloc (by simp; omega) _), b3.2.1.alloc _, b3.2.2.1.alloc _, b3.2.2.2.alloc _, .slice none 0 0, ?_, none, 0, 0, rfl, Nat.le_refl _, by omega, IS.nil _ _, fun a ha => by cases ha⟩
    have := Has.new (((w.alloc (.cells #[.bool m, .slice A n c] 82)).alloc (.cells #[.bool m', .slice A' n' c'] 82)).alloc (.cells #[.bool false, .slice none 0 0] 82)) 82 #[.bool q, .slice none 0 0]
    simpa using this
  have HT0 := Lib.hid TL0; clear TL0
  clear hq
  go_loopw [17] (fun v17 wr => ∃ i : Nat, i ≤ n' ∧ v17 = .int .i64 i ∧ TL w #[.bool m, .slice A n c] #[.bool m', .slice A' n' c'] q (timesGo l l' i) wr) (fun v17 _ => n' - (intOf v17).toNat)
  case atStart => exact ⟨0, Nat.zero_le _, rfl, HT0.out⟩
  case round =>
    obtain ⟨i, hi, rfl, hbel, hX, hY, hR, v, hO, hV⟩ := hrel
    obtain ⟨C, k, d, rfl, v1, v2, v3, v4⟩ := hV
    have HB := Lib.hid hbel; have HX := Lib.hid hX; have HY := Lib.hid hY; have HR := Lib.hid hR; have HO := Lib.hid hO; have HV3 := Lib.hid v3; have HV4 := Lib.hid v4
    clear hbel hX hY hR hO v3 v4
    by_cases h1 : i < n'
    · obtain ⟨b, off, rfl, hbl, hc⟩ := HI'.out.2 (by omega)
      have hl : i < l'.length := by rw [HI'.out.1]; exact h1
      have c0 := hc i l'[i] (by simp [hl])
      have GD : Hid (l'[i] = l'.getD i 0) := show l'[i] = l'.getD i 0 by simp [hl]
      clear hc
      obtain ⟨wc, wf⟩ := bcell HB.out
      have z1 : b < wr.heap.size := by have := HB.out.size; omega
      have z2 : off + i = off + i := rfl
      clear z2
      have c1 : wr.cell? ⟨b, off + i, none⟩ = some (.int .i64 l'[i]) := (wc _ _ hbl).trans c0
      clear wc wf c0
      go_wp2_with fail
      have hmk := make_ints i (by omega)
      have HMK := Lib.hid hmk; clear hmk
      have G1 := Lib.hid (show i + n ≤ maxLen by unfold maxLen; omega)
      have G2 := Lib.hid (show (i + n) * 8 ≤ 140737488355328 by have := HN.out; omega)
      have LT := LE.out i
      rw [HI.out.1] at LT
      have LEN : (timesGo l l' i).length = k := HV3.out.1
      have GN := Lib.hid (show (k + (i + n) + 2) * 8 ≤ 140737488355328 by have := HN.out; omega)
      have hx0 := HBB.out l'[i] (List.getElem_mem hl)
      obtain ⟨x0, x1⟩ := hx0
      clear LT LEN
      refine wp_region_inv 10 (Cls (wr)) (timesP (w.heap.size + 4) (.pointer (some ⟨w.heap.size + 1 + 1 + 1, 1, none⟩)) (.pointer (some ⟨w.heap.size, 1, none⟩)) (.slice C k d) (.slice A n c) i l'[i] l (jointD (timesGo l l' i) (List.replicate i 0 ++ l) l'[i])) (by kernel_rfl) (by kernel_rfl) (by kernel_rfl) (fun _ _ hC hb => Cls.step hC hb) ?hst (Cls.start _) ?hops ?hend
      case hst => exact timesP_stable _ _ _ _ _ _ _ _ _
      case hops =>
        obtain ⟨a0, a1⟩ := HX.out.cells2
        obtain ⟨o0, o1⟩ := HO.out.cells2
        have y1 := HX.out.lt
        have y2 := HO.out.lt
        intro us wx hus hC
        obtain ⟨u0, u1, u2, u3, u4, u5, u6, u7, u8, u9, rfl⟩ : ∃ u0 u1 u2 u3 u4 u5 u6 u7 u8 u9, us = [u0, u1, u2, u3, u4, u5, u6, u7, u8, u9] := by
          match us, hus with
          | [u0, u1, u2, u3, u4, u5, u6, u7, u8, u9], _ => exact ⟨u0, u1, u2, u3, u4, u5, u6, u7, u8, u9, rfl⟩
        clear hus
        simp only [fillA, Act.put, List.take_succ_cons, List.take_zero, List.setIfInBounds_toArray, List.set_cons_zero, List.set_cons_succ]
        refine ⟨fun h => ?_, fun h => ?_, fun h => ?_, fun h => ?_, fun h => ?_, fun h => ?_, fun h => ?_, fun h => ?_, fun h => ?_, fun h => ?_, trivial⟩
        · (clear h; refine good_plain rfl ?_; go_simp; exact ⟨Below.refl _ _, rfl⟩)
        · obtain rfl := h 0 rfl
          (clear h; refine good_plain rfl ?_; obtain ⟨hc, hf⟩ := hC.facts; go_simp; exact ⟨Below.refl _ _, rfl⟩)
        · (clear h; refine good_plain rfl ?_; go_simp; exact ⟨Below.refl _ _, rfl⟩)
        · obtain rfl := h 2 rfl
          have hle := hC.bel.size
          clear h; refine good_plain rfl ?_; go_simp
          rw [HMK.out]
          exact ⟨below_mk _ _, _, rfl, made_own i (by omega) _ (by omega)⟩
        · (clear h; refine good_plain rfl ?_; go_simp; exact ⟨Below.refl _ _, rfl⟩)
        · obtain rfl := h 4 rfl
          (clear h; refine good_plain rfl ?_; obtain ⟨hc, hf⟩ := hC.facts; go_simp; exact ⟨Below.refl _ _, rfl⟩)
        · obtain ⟨g, rfl, hown⟩ := h 3 rfl
          obtain rfl := h 5 rfl
          have hle := hC.bel.size
          have hbw := bel_step HB.out hC.bel HB.out.size
          have hsrc := (HI.out.keep hbw).src (c := c) Tryd.underlying80 (P := Tryd.prog)
          obtain ⟨v', w', hr, ho, hb⟩ := run_append_full (P := Tryd.prog) _ (w.heap.size + 4) 80 80 80 3 i0 _ 1 8 Tryd.underlying80 hi0 hz0 hz1 hz2 rfl g i _ hown _ n _ hsrc G1.out G2.out (by omega)
          obtain ⟨A6, c6, hv6⟩ := own_form ho
          subst hv6
          have hroom := own_room ho
          have hl2 : ints (List.replicate i 0 ++ l) = ints (List.replicate i 0) ++ ints l := by simp [ints]
          rw [← hl2] at ho
          clear h; refine good_plain rfl ?_
          refine good_append (.tmp 25) (.tmp 27) 80 80 (by rfl) (.slice (some ⟨g, 0, none⟩) i i) (.slice A n c) (by rfl) (by rfl) hr ?_
          exact ⟨hb, A6, i + n, c6, rfl, hroom.1, hroom.2, own_IS ho, own_fresh ho⟩
        · (clear h; refine good_plain rfl ?_; go_simp; exact ⟨Below.refl _ _, rfl⟩)
        · obtain rfl := h 1 rfl
          obtain ⟨A6, n6, c6, rfl, q1, q2, q3, q4⟩ := h 6 rfl
          obtain rfl := h 7 rfl
          have hle := hC.bel.size
          have n6e : n6 = i + n := by have := q3.1; rw [List.length_append, List.length_replicate, HI.out.1] at this; omega
          have hgn : (k + n6 + 2) * 8 ≤ 140737488355328 := by rw [n6e]; exact GN.out
          have hj := ref_joint C A6 k n6 d c6 (timesGo l l' i) (List.replicate i 0 ++ l) l'[i] _ (HV3.out.keep hC.bel) q3 (timesGo_digs _ _ _) ((Digs.zeros i).append HA.out) (by omega) x1 hgn
          have HJ := Lib.hid hj
          clear hj hgn q3 q4 n6e
          clear h; refine good_plain rfl ?_; go_simp
          refine HJ.out.mono ?_
          intro e w2 hp
          obtain ⟨u, he, hb, hi⟩ := ints_IV hp
          exact ⟨u, he, hb, hi.low (by omega)⟩
        · (clear h; refine good_plain rfl ?_; go_simp; exact ⟨Below.refl _ _, rfl⟩)
      case hend =>
        intro us wx hus hC
        obtain ⟨u0, u1, u2, u3, u4, u5, u6, u7, u8, u9, rfl⟩ : ∃ u0 u1 u2 u3 u4 u5 u6 u7 u8 u9, us = [u0, u1, u2, u3, u4, u5, u6, u7, u8, u9] := by
          match us, hus with
          | [u0, u1, u2, u3, u4, u5, u6, u7, u8, u9], _ => exact ⟨u0, u1, u2, u3, u4, u5, u6, u7, u8, u9, rfl⟩
        clear hus
        intro hall
        obtain ⟨h0, h1, h2, h3, h4, h5, h6, h7, h8, h9, _⟩ := hall
        obtain rfl := h9
        obtain ⟨A8, n8, c8, rfl, r1, r2, r3, r4⟩ := h8
        have hO2 := HO.out.belowS hC.bel
        obtain ⟨p0, p1⟩ := hO2.cells2
        have p2 := hO2.frozen
        have p3 := hO2.lt
        have HO2 := Lib.hid hO2; have R3 := Lib.hid r3; have R4 := Lib.hid r4; have HC := Lib.hid hC
        clear h0 h1 h2 h3 h4 h5 h6 h7 hO2 r3 r4 hC c1
        have GDX : Hid (jointD (timesGo l l' i) (List.replicate i 0 ++ l) l'[i] = timesGo l l' (i + 1)) := by
          show _ = jointD _ _ (l'.getD i 0)
          rw [← GD.out]
        go_wp2_with fail
        go_roundw
        case rel =>
          refine ⟨i + 1, by omega, by simp, ?_⟩
          rw [← GDX.out]
          exact TL.step HB.out HX.out HY.out HR.out HC.out.bel HO2.out R3.out R4.out r1 r2
        case measure => simp [intOf]; omega
    · obtain rfl : i = n' := by omega
      obtain ⟨r0, r1⟩ := HR.out.cells2
      have r2 := HR.out.frozen
      have r3 := HR.out.lt
      obtain ⟨o0, o1⟩ := HO.out.cells2
      have o2 := HO.out.lt
      go_wp2_with fail
      refine bodyPost_ret (v := .agg #[.bool q, .slice C k d]) (by simp [results, Tryd.results65, go_sem, *]) rfl ⟨C, k, d, rfl, v1, v2, ?_, fun a ha => by have := HV4.out a ha; omega, (HB.out.setCell (by simp; omega) _).setCell (by simp; omega) _⟩
      exact (HV3.out.far HV4.out _ _ (by simp)).far HV4.out _ _ (by simp)

end Go.Proofs.YtlkkpgdgnnknpaaDoor
