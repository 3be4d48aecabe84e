/-
  whole of the reference.
-/
import Derived.Test.YtlkkpgdgnnknpaaDoorLV
import Derived.Test.YtlkkpgdgnnknpaaDoorText0
import Derived.Test.YtlkkpgdgnnknpaaDoorLike1
import Derived.Lib.Strings
import Derived.IntWalk
namespace Go.Proofs.YtlkkpgdgnnknpaaDoor
open Go.RowKit
open Go.BigFrame
set_option linter.unusedVariables false
set_option linter.unusedSimpArgs false
attribute [local go_sem] OpGood goodUpon fillA Act.put

/-- the digits behind one more -/
def nextL (l : List Int) (x : Nat) : List Int := plusD false (timesGo l (digsOf 10) (digsOf 10).length) false (digsOf x)
theorem nextL_digs (l : List Int) (x : Nat) : Digs (nextL l x) := plusD_digs _ _ _ _
theorem nextL_canon (l : List Int) (x : Nat) : Canon (nextL l x) := plusD_canon _ _ _ _
theorem nextL_val {l : List Int} {u : Nat} (x : Nat) (hd : Digs l) (hv : valD l = u) : valD (nextL l x) = ((u * 10 + x : Nat) : Int) := by
  have h1 := plus_val (m := false) (m' := false) (timesGo_digs l (digsOf 10) (digsOf 10).length) (digsOf_digs x) (timesGo_canon _ _ _) (digsOf_canon x)
  have h2 := sval_times (m := false) (m' := false) hd (digsOf_digs 10)
  have h3 : plusM false (timesGo l (digsOf 10) (digsOf 10).length) false (digsOf x) = false := rfl
  rw [h3] at h1
  show valD (nextL l x) = _
  have h4 : valD (nextL l x) = valD (timesGo l (digsOf 10) (digsOf 10).length) + valD (digsOf x) := h1
  have h5 : valD (timesGo l (digsOf 10) (digsOf 10).length) = valD l * valD (digsOf 10) := h2
  rw [h4, h5, digsOf_val, digsOf_val, hv]
  omega
theorem digs10_len : (digsOf 10).length ≤ 5 := digs_len (n := 10) (by unfold inI; omega)
theorem nextL_len {l : List Int} (hd : Digs l) (x : Nat) (hx : x ≤ 9) : (nextL l x).length ≤ l.length + 6 := by
  have h1 : nextL l x = jointD (timesGo l (digsOf 10) (digsOf 10).length) (digsOf x) 1 := rfl
  have h2 : ∀ (a b : List Int) (t : Int), (jointD a b t).length ≤ max a.length b.length + 1 := jointD_len
  have h3 := timesGo_len hd (digsOf_digs 10) (digsOf 10).length
  have h4 := digs10_len
  have h5 : (digsOf x).length ≤ 5 := by
    have := digs_len (n := (x : Int)) (by unfold inI; omega)
    simpa using this
  have h6 := h2 (timesGo l (digsOf 10) (digsOf 10).length) (digsOf x) 1
  rw [h1]
  refine Nat.le_trans h6 ?_
  omega

/-- the state of whole's loop -/
def WS (w : World) (l : List Int) (wr : World) : Prop :=
  Below w.heap.size w wr ∧ Has wr w.heap.size 38 #[.int .i64 0, .int .i64 0, .string ⟨#[]⟩] ∧ ∃ v, Has wr (w.heap.size + 1) 82 #[.bool false, v] ∧ IV (w.heap.size + 2) wr l v

theorem WS.start (w : World) : WS w [] ((w.alloc (.cells #[.int .i64 0, .int .i64 0, .string ⟨#[]⟩] 38)).alloc (.cells #[.bool false, .slice none 0 0] 82)) := by
  refine ⟨((Below.refl _ _).alloc (Nat.le_refl _) _).alloc (by simp) _, (Has.new _ _ _).alloc _, .slice none 0 0, ?_, none, 0, 0, rfl, Nat.le_refl _, by omega, IS.nil _ _, fun a ha => by cases ha⟩
  have := Has.new (w.alloc (.cells #[.int .i64 0, .int .i64 0, .string ⟨#[]⟩] 38)) 82 #[.bool false, .slice none 0 0]
  simpa using this
/-- the values of the region -/
def wholeP (B : Nat) (V S : Value) (i : Nat) (b x : Nat) (l : List Int) : Nat → Value → World → Prop
  | 0, u, _ => u = .agg #[.bool false, V]
  | 1, u, w => LV B w false (digsOf 10) u
  | 2, u, w => LV B w false (timesGo l (digsOf 10) (digsOf 10).length) u
  | 3, u, _ => u = S
  | 4, u, _ => u = .int .i64 i
  | 5, u, _ => u = .int .u8 b
  | 6, u, _ => u = .int .u8 x
  | 7, u, _ => u = .int .i64 x
  | 8, u, w => LV B w false (digsOf x) u
  | 9, u, w => LV B w false (nextL l x) u
  | _, _, _ => True
theorem wholeP_stable (B : Nat) (V S : Value) (i : Nat) (b x : Nat) (l : List Int) : ∀ j u (w w' : World), Below w.heap.size w w' → wholeP B V S i b x l j u w → wholeP B V S i b x l j u w'
  | 0, _, _, _, _, h => h
  | 1, _, _, _, hb, h => h.keep hb
  | 2, _, _, _, hb, h => h.keep hb
  | 3, _, _, _, _, h => h
  | 4, _, _, _, _, h => h
  | 5, _, _, _, _, h => h
  | 6, _, _, _, _, h => h
  | 7, _, _, _, _, h => h
  | 8, _, _, _, hb, h => h.keep hb
  | 9, _, _, _, hb, h => h.keep hb
  | _ + 10, _, _, _, _, _ => trivial
theorem ref_long10 (w : World) : Calls Tryd.prog 66 #[.int .i64 10] w (LongPost w false (digsOf 10)) := ref_longOf 10 (by unfold inI; omega) w
theorem ref_longX (x : Nat) (hx : x ≤ 9) (w : World) : Calls Tryd.prog 66 #[.int .i64 x] w (LongPost w false (digsOf x)) := by
  have := ref_longOf (x : Int) (by unfold inI; omega) w
  rwa [decide_eq_false (show ¬ (x : Int) < 0 by omega), Int.natAbs_natCast] at this
theorem take_digV {d : ByteArray} {i u : Nat} (h : i < d.size) (hu : digV (d.data.toList.take i) 0 = some u) (hc : isDig d[i]) : digV (d.data.toList.take (i + 1)) 0 = some (u * 10 + (d[i].toNat - 48)) := by
  have hb := byte_at d i h
  have hl : i < d.data.toList.length := (List.getElem?_eq_some_iff.1 hb).1
  rw [List.take_succ_eq_append_getElem hl, (List.getElem?_eq_some_iff.1 hb).2]
  exact digV_snoc hc _ _ _ hu
theorem bad_digV {d : ByteArray} {i : Nat} (h : i < d.size) (hc : ¬ isDig d[i]) : digV d.data.toList 0 = none := by
  have hb := byte_at d i h
  have hl : i < d.data.toList.length := (List.getElem?_eq_some_iff.1 hb).1
  have e : d.data.toList = d.data.toList.take i ++ d[i] :: d.data.toList.drop (i + 1) := by
    rw [← (List.getElem?_eq_some_iff.1 hb).2, ← List.drop_eq_getElem_cons hl, List.take_append_drop]
  rw [e]
  exact digV_bad hc _ _ _

theorem size_nil {d : ByteArray} (h : d.size = 0) : d.data.toList = [] := List.length_eq_zero_iff.1 (by rw [Array.length_toList]; exact h)
theorem size_some {d : ByteArray} (h : ¬ d.size = 0) : ¬ d.data.toList = [] := fun e => h (by have := congrArg List.length e; rw [Array.length_toList] at this; exact this)
theorem whole_bad_neg {l D : List UInt8} (h : l.head?.map (·.toNat) = some 45) (ht : l.tail = D) (hd : digV D 0 = none) : wholeO l = none := by
  unfold wholeO
  rw [if_pos h, ht, hd]
  split <;> rfl
theorem whole_bad_pos {l : List UInt8} (h : ¬ l.head?.map (·.toNat) = some 45) (hd : digV l 0 = none) : wholeO l = none := by
  unfold wholeO
  rw [if_neg h, hd]
  split <;> rfl
theorem whole_none_neg {l : List UInt8} {d : ByteArray} (h : l.head?.map (·.toNat) = some 45) (ht : l.tail = d.data.toList) (h0 : d.size = 0) : wholeO l = none := by
  unfold wholeO
  rw [if_pos h, if_pos (ht.trans (size_nil h0))]
theorem whole_none_pos {d : ByteArray} (h0 : d.size = 0) : wholeO d.data.toList = none := by
  rw [size_nil h0]; rfl
theorem whole_end_neg {l : List UInt8} {d : ByteArray} {u : Nat} {z : List Int} (h : l.head?.map (·.toNat) = some 45) (ht : l.tail = d.data.toList) (h0 : ¬ d.size = 0) (hu : digV d.data.toList 0 = some u) (hv : valD z = u) : wholeO l = fitO (sval true z) := by
  unfold wholeO sval
  rw [if_pos h, ht, if_neg (size_some h0), hu, if_pos rfl, hv]; rfl
theorem whole_end_pos {d : ByteArray} {u : Nat} {z : List Int} (h : ¬ d.data.toList.head?.map (·.toNat) = some 45) (h0 : ¬ d.size = 0) (hu : digV d.data.toList 0 = some u) (hv : valD z = u) : wholeO d.data.toList = fitO (sval false z) := by
  unfold wholeO sval
  rw [if_neg h, if_neg (size_some h0), hu, if_neg (by simp), hv]; rfl
theorem tail_extract {s d : ByteArray} (hd : s.extract 1 s.size = d) : s.data.toList.tail = d.data.toList := by
  rw [← hd, ← Lib.toList_data, ← Lib.toList_data, Lib.extract_toList, Lib.toList_data]
  rw [List.take_of_length_le (by rw [List.length_drop, Array.length_toList]; exact Nat.le_refl _), List.drop_one]

set_option maxRecDepth 100000 in
set_option maxHeartbeats 6400000 in
theorem ref_whole_neg (s d : ByteArray) (w : World) (hs0 : s.size ≤ 2000000) (h45 : s.data.toList.head?.map (·.toNat) = some 45) (h0 : 0 < s.size) (hd : s.extract 1 s.size = d) (hz : d.size + 1 = s.size) :
    Calls Tryd.prog 56 #[.string s] w fun e w' => e = .returned (.agg #[.int .i64 (recK (wholeO s.data.toList)), .int .i64 (recN (wholeO s.data.toList)), .string ⟨#[]⟩]) ∧ Below w.heap.size w w' := by
  have hq : (s.toList == []) = false := by
    rw [Lib.toList_data, beq_eq_false_iff_ne]
    intro e; have : s.data.toList.length = s.size := Array.length_toList
    rw [e] at this; simp at this; omega
  have hb : (s[0].toNat : Int) = 45 := by
    have := byte_at s 0 h0
    have h45' := h45
    rw [List.head?_eq_getElem?, this] at h45'
    have : s[0].toNat = 45 := by simpa using h45'
    omega
  have hs : d.size ≤ 2000000 := by omega
  have SZ := Lib.hid hs
  have HZ := Lib.hid hz
  have H45 := Lib.hid h45
  have HD1 := Lib.hid (tail_extract hd)
  clear hz h45 hs0
  go_enter Tryd.func56, Tryd.ntmps56
  go_wp2_with fail
  clear hq hb
  have HW := Lib.hid (WS.start w)
  clear hs
  go_loopw [5] (fun v5 wr => ∃ (i u : Nat) (l : List Int), v5 = .int .i64 i ∧ i ≤ d.size ∧ digV (d.data.toList.take i) 0 = some u ∧ Digs l ∧ Canon l ∧ valD l = u ∧ l.length ≤ 6 * i ∧ WS w l wr) (fun v5 _ => d.size - (intOf v5).toNat)
  case atStart => exact ⟨0, 0, [], rfl, Nat.zero_le _, rfl, Digs.nil, (fun m h => by simp at h), rfl, Nat.le_refl _, HW.out⟩
  case round =>
    obtain ⟨i, u, l, rfl, hi, hu, hdg, hcn, hv, hlen, hbel, hX, v, hN, C, k, c, rfl, v1, v2, v3, v4⟩ := hrel
    have HU := Lib.hid hu; have HD := Lib.hid hdg; have HC := Lib.hid hcn; have HV := Lib.hid hv; have HLN := Lib.hid hlen
    have HB := Lib.hid hbel; have HX := Lib.hid hX; have HN := Lib.hid hN; have HV3 := Lib.hid v3; have HV4 := Lib.hid v4
    clear hu hdg hcn hv hlen hbel hX hN v3 v4 HW
    have LK := Lib.hid HV3.out.1
    obtain ⟨n0, n1⟩ := HN.out.cells2
    have nz := HN.out.lt
    have nf := HN.out.frozen
    obtain ⟨x0, x1, x2⟩ := HX.out.cells3
    have xz := HX.out.lt
    have xf := HX.out.frozen
    by_cases h1 : i < d.size
    · obtain ⟨b, hb⟩ : ∃ b, d[i].toNat = b := ⟨_, rfl⟩
      by_cases hdig : isDig d[i]
      · have TK := Lib.hid (take_digV h1 HU.out hdig)
        have hd1 : 48 ≤ d[i].toNat := hdig.1
        have hd2 : d[i].toNat ≤ 57 := hdig.2
        rw [hb] at hd1 hd2 TK
        have g1 : ¬ (b : Int) < 48 := by omega
        have g2 : ¬ (57 : Int) < b := by omega
        obtain ⟨x, hx⟩ : ∃ x, b - 48 = x := ⟨_, rfl⟩
        rw [hx] at TK
        have hx9 : x ≤ 9 := by omega
        have w8 : IntKind.u8.wrap ((b : Int) - 48) = (x : Int) := by rw [IntKind.wrap_u8']; omega
        clear hdig
        go_wp2_with fail
        refine wp_region_inv 10 (Cls (wr)) (wholeP (w.heap.size + 2) (.slice C k c) (.string d) i b x l) (by kernel_rfl) (by kernel_rfl) (by kernel_rfl) (fun _ _ hC hb => Cls.step hC hb) ?hst (Cls.start _) ?hops ?hend
        case hst => exact wholeP_stable _ _ _ _ _ _ _
        case hops =>
          intro us wx hus hC
          obtain ⟨u0, u1, u2, u3, u4, u5, u6, u7, u8, u9, rfl⟩ : ∃ u0 u1 u2 u3 u4 u5 u6 u7 u8 u9, us = [u0, u1, u2, u3, u4, u5, u6, u7, u8, u9] := by
            match us, hus with
            | [u0, u1, u2, u3, u4, u5, u6, u7, u8, u9], _ => exact ⟨u0, u1, u2, u3, u4, u5, u6, u7, u8, u9, rfl⟩
          clear hus
          simp only [fillA, Act.put, List.take_succ_cons, List.take_zero, List.setIfInBounds_toArray, List.set_cons_zero, List.set_cons_succ]
          refine ⟨fun h => ?_, fun h => ?_, fun h => ?_, fun h => ?_, fun h => ?_, fun h => ?_, fun h => ?_, fun h => ?_, fun h => ?_, fun h => ?_, trivial⟩
          · (clear h; refine good_plain rfl ?_; obtain ⟨hc, hf⟩ := hC.facts; go_simp; exact ⟨Below.refl _ _, rfl⟩)
          · have hle := hC.bel.size
            clear h; refine good_plain rfl ?_; go_simp
            refine (ref_long10 _).mono ?_
            intro e w2 hp
            obtain ⟨u, he, hb, hi⟩ := long_LV hp
            exact ⟨u, he, hb, hi.low (by omega)⟩
          · obtain rfl := h 0 rfl
            obtain ⟨A1, k1, c1, rfl, q1, q2, q3, q4⟩ := h 1 rfl
            have hle := hC.bel.size
            have e1 : k1 = (digsOf 10).length := q3.1.symm
            have e2 := digs10_len
            have e3 := HLN.out
            have e4 := LK.out
            have e6 := SZ.out
            subst e1
            have hj := ref_times false false C A1 k (digsOf 10).length c c1 l (digsOf 10) _ (HV3.out.keep hC.bel) q3 HD.out (digsOf_digs 10) (by omega)
            have HJ := Lib.hid hj
            clear hj q3 q4
            clear h; refine good_plain rfl ?_; go_simp
            refine HJ.out.mono ?_
            intro e w2 hp
            obtain ⟨u, he, hb, hi⟩ := long_LV hp
            exact ⟨u, he, hb, hi.low (by omega)⟩
          · (clear h; refine good_plain rfl ?_; go_simp; exact ⟨Below.refl _ _, rfl⟩)
          · (clear h; refine good_plain rfl ?_; go_simp; exact ⟨Below.refl _ _, rfl⟩)
          · obtain rfl := h 3 rfl
            obtain rfl := h 4 rfl
            (clear h; refine good_plain rfl ?_; go_simp; exact ⟨Below.refl _ _, rfl⟩)
          · obtain rfl := h 5 rfl
            (clear h; refine good_plain rfl ?_; go_simp; exact ⟨Below.refl _ _, rfl⟩)
          · obtain rfl := h 6 rfl
            (clear h; refine good_plain rfl ?_; go_simp; exact ⟨Below.refl _ _, (congrArg (Value.int .i64) (IntWalk.i64_in _ ⟨by omega, by omega⟩))⟩)
          · obtain rfl := h 7 rfl
            have hle := hC.bel.size
            clear h; refine good_plain rfl ?_; go_simp
            refine (ref_longX x hx9 _).mono ?_
            intro e w2 hp
            obtain ⟨u, he, hb, hi⟩ := long_LV hp
            exact ⟨u, he, hb, hi.low (by omega)⟩
          · obtain ⟨A1, k1, c1, rfl, q1, q2, q3, q4⟩ := h 2 rfl
            obtain ⟨A2, k2, c2, rfl, p1, p2, p3, p4⟩ := h 8 rfl
            have hle := hC.bel.size
            have e1 := q3.1
            have e2 := p3.1
            have e3 := timesGo_len HD.out (digsOf_digs 10) (digsOf 10).length
            have e4 := digs10_len
            have e5 : (digsOf x).length ≤ 5 := by
              have := digs_len (n := (x : Int)) (by unfold inI; omega)
              simpa using this
            have e6 := HLN.out
            have e7 := SZ.out
            have hj := ref_plus false false A1 A2 k1 k2 c1 c2 _ _ _ q3 p3 (timesGo_digs l (digsOf 10) (digsOf 10).length) (digsOf_digs x) (by omega)
            have HJ := Lib.hid hj
            clear hj q3 q4 p3 p4 e1 e2 e3 e4 e5 e6 e7
            clear h; refine good_plain rfl ?_; go_simp
            refine HJ.out.mono ?_
            intro e w2 hp
            obtain ⟨u, he, hb, hi⟩ := long_LV hp
            exact ⟨u, he, hb, hi.low (by omega)⟩
        case hend =>
          intro us wx hus hC
          obtain ⟨u0, u1, u2, u3, u4, u5, u6, u7, u8, u9, rfl⟩ : ∃ u0 u1 u2 u3 u4 u5 u6 u7 u8 u9, us = [u0, u1, u2, u3, u4, u5, u6, u7, u8, u9] := by
            match us, hus with
            | [u0, u1, u2, u3, u4, u5, u6, u7, u8, u9], _ => exact ⟨u0, u1, u2, u3, u4, u5, u6, u7, u8, u9, rfl⟩
          clear hus
          intro hall
          obtain ⟨h0, h1, h2, h3, h4, h5, h6, h7, h8, h9, _⟩ := hall
          obtain ⟨A9, k9, c9, rfl, r1, r2, r3, r4⟩ := h9
          have HN2 := Lib.hid (HN.out.belowS hC.bel)
          have HX2 := Lib.hid (HX.out.belowS hC.bel)
          have HB2 := Lib.hid (bel_step HB.out hC.bel HB.out.size)
          have R3 := Lib.hid r3; have R4 := Lib.hid r4
          obtain ⟨p0, p1⟩ := HN2.out.cells2
          have p2 := HN2.out.frozen
          have p3 := HN2.out.lt
          clear h0 h1 h2 h3 h4 h5 h6 h7 h8 r3 r4 hC n0 n1 nz nf x0 x1 x2 xz xf
          go_wp2_with fail
          go_roundw
          case rel =>
            refine ⟨i + 1, u * 10 + x, nextL l x, by have := SZ.out; (try rw [show wrap64 ((i : Int) + 1) = (i : Int) + 1 by unfold wrap64; omega]); (first | rfl | simp), by omega, TK.out, nextL_digs _ _, nextL_canon _ _, nextL_val x HD.out HV.out, ?_, ?_⟩
            · have := nextL_len HD.out x hx9
              have := HLN.out
              omega
            · refine ⟨(HB2.out.setCell (by simp) _).setCell (by simp) _, (HX2.out.far (by simp) _).far (by simp) _, _, HN2.out.set2, A9, k9, c9, rfl, r1, r2, (R3.out.far R4.out _ _ (by simp)).far R4.out _ _ (by simp), R4.out⟩
          case measure =>
            have := SZ.out
            (try rw [show wrap64 ((i : Int) + 1) = (i : Int) + 1 by unfold wrap64; omega])
            simp [intOf]; omega
      · have hbad : wholeO s.data.toList = none := whole_bad_neg H45.out HD1.out (bad_digV h1 hdig)
        have HBAD := Lib.hid hbad
        clear hbad
        have hor : b < 48 ∨ 57 < b := by
          by_cases g : b < 48
          · exact .inl g
          · refine .inr ?_
            have : ¬ (48 ≤ d[i].toNat ∧ d[i].toNat ≤ 57) := hdig
            omega
        clear hdig
        rcases hor with g | g
        · have g1 : (b : Int) < 48 := by omega
          clear g
          go_wp2_with (go_at_call 32; refine (relstoreref_null _).mono ?_; rintro e w1 ⟨rfl, hb⟩; obtain ⟨hc, hf⟩ := bcell hb; have hz := hb.size; (try simp at hz); have hz0 : w.heap.size < w1.heap.size := (by omega); have hz1 : w.heap.size + 1 < w1.heap.size := (by omega))
          refine bodyPost_ret (v := .agg #[.int .i64 0, .int .i64 0, .string ⟨#[]⟩]) (by simp [results, Tryd.results56, go_sem, *]) rfl ⟨?_, ?_⟩
          · rw [HBAD.out]; rfl
          · exact (((bel_step HB.out hb HB.out.size).setCell (by simp) _).setCell (by simp) _).setCell (by simp) _
        · have g1 : ¬ (b : Int) < 48 := by omega
          have g2 : (57 : Int) < b := by omega
          clear g
          go_wp2_with (go_at_call 32; refine (relstoreref_null _).mono ?_; rintro e w1 ⟨rfl, hb⟩; obtain ⟨hc, hf⟩ := bcell hb; have hz := hb.size; (try simp at hz); have hz0 : w.heap.size < w1.heap.size := (by omega); have hz1 : w.heap.size + 1 < w1.heap.size := (by omega))
          refine bodyPost_ret (v := .agg #[.int .i64 0, .int .i64 0, .string ⟨#[]⟩]) (by simp [results, Tryd.results56, go_sem, *]) rfl ⟨?_, ?_⟩
          · rw [HBAD.out]; rfl
          · exact (((bel_step HB.out hb HB.out.size).setCell (by simp) _).setCell (by simp) _).setCell (by simp) _
    · obtain rfl : i = d.size := by omega
      by_cases h2 : d.size = 0
      · have q2 : d.toList = [] := by rw [Lib.toList_data]; exact List.length_eq_zero_iff.1 (by rw [Array.length_toList]; exact h2)
        have q3 : (d.toList == []) = true := by rw [q2]; rfl
        have hnone : wholeO s.data.toList = none := whole_none_neg H45.out HD1.out h2
        have HNO := Lib.hid hnone
        have H2 := Lib.hid h2
        clear hnone q2 h1 h2 hi
        go_wp2_with (go_at_call 32; refine (relstoreref_null _).mono ?_; rintro e w1 ⟨rfl, hb⟩; obtain ⟨hc, hf⟩ := bcell hb; have hz := hb.size; (try simp at hz); have hz0 : w.heap.size < w1.heap.size := (by omega); have hz1 : w.heap.size + 1 < w1.heap.size := (by omega))
        refine bodyPost_ret (v := .agg #[.int .i64 0, .int .i64 0, .string ⟨#[]⟩]) (by simp [results, Tryd.results56, go_sem, *]) rfl ⟨?_, ?_⟩
        · rw [HNO.out]; rfl
        · exact (((bel_step HB.out hb HB.out.size).setCell (by simp) _).setCell (by simp) _).setCell (by simp) _
      · have q2 : ¬ d.toList = [] := by
          intro e; rw [Lib.toList_data] at e
          exact size_some h2 e
        have q3 : (d.toList == []) = false := by rw [beq_eq_false_iff_ne]; exact q2
        have HFIN : Hid (wholeO s.data.toList = fitO (sval true l)) := by
          have e := HU.out
          rw [List.take_of_length_le (by rw [Array.length_toList]; exact Nat.le_refl _)] at e
          exact whole_end_neg H45.out HD1.out h2 e HV.out
        have LL := Lib.hid HLN.out
        have VC := Lib.hid (fun w1 (h : IS w1 C k l) => ref_value true C k c l w1 h HD.out HC.out (by have := HV3.out.1; have := HLN.out; have := SZ.out; omega))
        have HV5 := Lib.hid (HV3.out.far HV4.out ⟨w.heap.size + 1, 0, none⟩ (.bool true) (by simp))
        have HB5 := Lib.hid (HB.out.setCell (p := ⟨w.heap.size + 1, 0, none⟩) (by simp) (.bool true))
        obtain ⟨K, hK⟩ : ∃ K, recK (fitO (sval true l)) = K := ⟨_, rfl⟩
        obtain ⟨N, hN⟩ : ∃ N, recN (fitO (sval true l)) = N := ⟨_, rfl⟩
        simp only [hK, hN] at VC
        have HK := Lib.hid hK; have HN1 := Lib.hid hN
        clear q2 h1 h2 hi hK hN
        have q5 : d.size < s.size := by have := HZ.out; omega
        go_wp2_with (go_at_call 68; refine (VC.out _ HV5.out).mono ?_; rintro e w1 ⟨rfl, hb⟩; obtain ⟨hc, hf⟩ := bcell hb; have hz := hb.size; (try simp at hz); have hz0 : w.heap.size < w1.heap.size := (by omega); have hz1 : w.heap.size + 1 < w1.heap.size := (by omega))
        refine bodyPost_ret (v := .agg #[.int .i64 K, .int .i64 N, .string ⟨#[]⟩]) (by simp [results, Tryd.results56, go_sem, *]) rfl ⟨?_, ?_⟩
        · rw [HFIN.out, HK.out, HN1.out]
        · exact (((bel_step HB5.out hb HB5.out.size).setCell (by simp) _).setCell (by simp) _).setCell (by simp) _

set_option maxRecDepth 100000 in
set_option maxHeartbeats 6400000 in
theorem ref_whole_pos (d : ByteArray) (w : World) (hs : d.size ≤ 2000000) (h45 : ¬ d.data.toList.head?.map (·.toNat) = some 45) :
    Calls Tryd.prog 56 #[.string d] w fun e w' => e = .returned (.agg #[.int .i64 (recK (wholeO d.data.toList)), .int .i64 (recN (wholeO d.data.toList)), .string ⟨#[]⟩]) ∧ Below w.heap.size w w' := by
  have SZ := Lib.hid hs
  have H45 := Lib.hid h45
  by_cases h0 : 0 < d.size
  · have hq : (d.toList == []) = false := by
      rw [Lib.toList_data, beq_eq_false_iff_ne]
      intro e; have : d.data.toList.length = d.size := Array.length_toList
      rw [e] at this; simp at this; omega
    have hb : ((d[0].toNat : Int) == 45) = false := by
      rw [beq_eq_false_iff_ne]
      intro e
      refine h45 ?_
      rw [List.head?_eq_getElem?, byte_at d 0 h0]
      exact congrArg some (show d[0].toNat = 45 by omega)
    clear h45
    go_enter Tryd.func56, Tryd.ntmps56
    go_wp2_with fail
    clear hq hb
    have HW := Lib.hid (WS.start w)
    clear hs
    go_loopw [5] (fun v5 wr => ∃ (i u : Nat) (l : List Int), v5 = .int .i64 i ∧ i ≤ d.size ∧ digV (d.data.toList.take i) 0 = some u ∧ Digs l ∧ Canon l ∧ valD l = u ∧ l.length ≤ 6 * i ∧ WS w l wr) (fun v5 _ => d.size - (intOf v5).toNat)
    case atStart => exact ⟨0, 0, [], rfl, Nat.zero_le _, rfl, Digs.nil, (fun m h => by simp at h), rfl, Nat.le_refl _, HW.out⟩
    case round =>
      obtain ⟨i, u, l, rfl, hi, hu, hdg, hcn, hv, hlen, hbel, hX, v, hN, C, k, c, rfl, v1, v2, v3, v4⟩ := hrel
      have HU := Lib.hid hu; have HD := Lib.hid hdg; have HC := Lib.hid hcn; have HV := Lib.hid hv; have HLN := Lib.hid hlen
      have HB := Lib.hid hbel; have HX := Lib.hid hX; have HN := Lib.hid hN; have HV3 := Lib.hid v3; have HV4 := Lib.hid v4
      clear hu hdg hcn hv hlen hbel hX hN v3 v4 HW
      have LK := Lib.hid HV3.out.1
      obtain ⟨n0, n1⟩ := HN.out.cells2
      have nz := HN.out.lt
      have nf := HN.out.frozen
      obtain ⟨x0, x1, x2⟩ := HX.out.cells3
      have xz := HX.out.lt
      have xf := HX.out.frozen
      by_cases h1 : i < d.size
      · obtain ⟨b, hb⟩ : ∃ b, d[i].toNat = b := ⟨_, rfl⟩
        by_cases hdig : isDig d[i]
        · have TK := Lib.hid (take_digV h1 HU.out hdig)
          have hd1 : 48 ≤ d[i].toNat := hdig.1
          have hd2 : d[i].toNat ≤ 57 := hdig.2
          rw [hb] at hd1 hd2 TK
          have g1 : ¬ (b : Int) < 48 := by omega
          have g2 : ¬ (57 : Int) < b := by omega
          obtain ⟨x, hx⟩ : ∃ x, b - 48 = x := ⟨_, rfl⟩
          rw [hx] at TK
          have hx9 : x ≤ 9 := by omega
          have w8 : IntKind.u8.wrap ((b : Int) - 48) = (x : Int) := by rw [IntKind.wrap_u8']; omega
          clear hdig
          go_wp2_with fail
          refine wp_region_inv 10 (Cls (wr)) (wholeP (w.heap.size + 2) (.slice C k c) (.string d) i b x l) (by kernel_rfl) (by kernel_rfl) (by kernel_rfl) (fun _ _ hC hb => Cls.step hC hb) ?hst (Cls.start _) ?hops ?hend
          case hst => exact wholeP_stable _ _ _ _ _ _ _
          case hops =>
            intro us wx hus hC
            obtain ⟨u0, u1, u2, u3, u4, u5, u6, u7, u8, u9, rfl⟩ : ∃ u0 u1 u2 u3 u4 u5 u6 u7 u8 u9, us = [u0, u1, u2, u3, u4, u5, u6, u7, u8, u9] := by
              match us, hus with
              | [u0, u1, u2, u3, u4, u5, u6, u7, u8, u9], _ => exact ⟨u0, u1, u2, u3, u4, u5, u6, u7, u8, u9, rfl⟩
            clear hus
            simp only [fillA, Act.put, List.take_succ_cons, List.take_zero, List.setIfInBounds_toArray, List.set_cons_zero, List.set_cons_succ]
            refine ⟨fun h => ?_, fun h => ?_, fun h => ?_, fun h => ?_, fun h => ?_, fun h => ?_, fun h => ?_, fun h => ?_, fun h => ?_, fun h => ?_, trivial⟩
            · (clear h; refine good_plain rfl ?_; obtain ⟨hc, hf⟩ := hC.facts; go_simp; exact ⟨Below.refl _ _, rfl⟩)
            · have hle := hC.bel.size
              clear h; refine good_plain rfl ?_; go_simp
              refine (ref_long10 _).mono ?_
              intro e w2 hp
              obtain ⟨u, he, hb, hi⟩ := long_LV hp
              exact ⟨u, he, hb, hi.low (by omega)⟩
            · obtain rfl := h 0 rfl
              obtain ⟨A1, k1, c1, rfl, q1, q2, q3, q4⟩ := h 1 rfl
              have hle := hC.bel.size
              have e1 : k1 = (digsOf 10).length := q3.1.symm
              have e2 := digs10_len
              have e3 := HLN.out
              have e4 := LK.out
              have e6 := SZ.out
              subst e1
              have hj := ref_times false false C A1 k (digsOf 10).length c c1 l (digsOf 10) _ (HV3.out.keep hC.bel) q3 HD.out (digsOf_digs 10) (by omega)
              have HJ := Lib.hid hj
              clear hj q3 q4
              clear h; refine good_plain rfl ?_; go_simp
              refine HJ.out.mono ?_
              intro e w2 hp
              obtain ⟨u, he, hb, hi⟩ := long_LV hp
              exact ⟨u, he, hb, hi.low (by omega)⟩
            · (clear h; refine good_plain rfl ?_; go_simp; exact ⟨Below.refl _ _, rfl⟩)
            · (clear h; refine good_plain rfl ?_; go_simp; exact ⟨Below.refl _ _, rfl⟩)
            · obtain rfl := h 3 rfl
              obtain rfl := h 4 rfl
              (clear h; refine good_plain rfl ?_; go_simp; exact ⟨Below.refl _ _, rfl⟩)
            · obtain rfl := h 5 rfl
              (clear h; refine good_plain rfl ?_; go_simp; exact ⟨Below.refl _ _, rfl⟩)
            · obtain rfl := h 6 rfl
              (clear h; refine good_plain rfl ?_; go_simp; exact ⟨Below.refl _ _, (congrArg (Value.int .i64) (IntWalk.i64_in _ ⟨by omega, by omega⟩))⟩)
            · obtain rfl := h 7 rfl
              have hle := hC.bel.size
              clear h; refine good_plain rfl ?_; go_simp
              refine (ref_longX x hx9 _).mono ?_
              intro e w2 hp
              obtain ⟨u, he, hb, hi⟩ := long_LV hp
              exact ⟨u, he, hb, hi.low (by omega)⟩
            · obtain ⟨A1, k1, c1, rfl, q1, q2, q3, q4⟩ := h 2 rfl
              obtain ⟨A2, k2, c2, rfl, p1, p2, p3, p4⟩ := h 8 rfl
              have hle := hC.bel.size
              have e1 := q3.1
              have e2 := p3.1
              have e3 := timesGo_len HD.out (digsOf_digs 10) (digsOf 10).length
              have e4 := digs10_len
              have e5 : (digsOf x).length ≤ 5 := by
                have := digs_len (n := (x : Int)) (by unfold inI; omega)
                simpa using this
              have e6 := HLN.out
              have e7 := SZ.out
              have hj := ref_plus false false A1 A2 k1 k2 c1 c2 _ _ _ q3 p3 (timesGo_digs l (digsOf 10) (digsOf 10).length) (digsOf_digs x) (by omega)
              have HJ := Lib.hid hj
              clear hj q3 q4 p3 p4 e1 e2 e3 e4 e5 e6 e7
              clear h; refine good_plain rfl ?_; go_simp
              refine HJ.out.mono ?_
              intro e w2 hp
              obtain ⟨u, he, hb, hi⟩ := long_LV hp
              exact ⟨u, he, hb, hi.low (by omega)⟩
          case hend =>
            intro us wx hus hC
            obtain ⟨u0, u1, u2, u3, u4, u5, u6, u7, u8, u9, rfl⟩ : ∃ u0 u1 u2 u3 u4 u5 u6 u7 u8 u9, us = [u0, u1, u2, u3, u4, u5, u6, u7, u8, u9] := by
              match us, hus with
              | [u0, u1, u2, u3, u4, u5, u6, u7, u8, u9], _ => exact ⟨u0, u1, u2, u3, u4, u5, u6, u7, u8, u9, rfl⟩
            clear hus
            intro hall
            obtain ⟨h0, h1, h2, h3, h4, h5, h6, h7, h8, h9, _⟩ := hall
            obtain ⟨A9, k9, c9, rfl, r1, r2, r3, r4⟩ := h9
            have HN2 := Lib.hid (HN.out.belowS hC.bel)
            have HX2 := Lib.hid (HX.out.belowS hC.bel)
            have HB2 := Lib.hid (bel_step HB.out hC.bel HB.out.size)
            have R3 := Lib.hid r3; have R4 := Lib.hid r4
            obtain ⟨p0, p1⟩ := HN2.out.cells2
            have p2 := HN2.out.frozen
            have p3 := HN2.out.lt
            clear h0 h1 h2 h3 h4 h5 h6 h7 h8 r3 r4 hC n0 n1 nz nf x0 x1 x2 xz xf
            go_wp2_with fail
            go_roundw
            case rel =>
              refine ⟨i + 1, u * 10 + x, nextL l x, by have := SZ.out; (try rw [show wrap64 ((i : Int) + 1) = (i : Int) + 1 by unfold wrap64; omega]); (first | rfl | simp), by omega, TK.out, nextL_digs _ _, nextL_canon _ _, nextL_val x HD.out HV.out, ?_, ?_⟩
              · have := nextL_len HD.out x hx9
                have := HLN.out
                omega
              · refine ⟨(HB2.out.setCell (by simp) _).setCell (by simp) _, (HX2.out.far (by simp) _).far (by simp) _, _, HN2.out.set2, A9, k9, c9, rfl, r1, r2, (R3.out.far R4.out _ _ (by simp)).far R4.out _ _ (by simp), R4.out⟩
            case measure =>
              have := SZ.out
              (try rw [show wrap64 ((i : Int) + 1) = (i : Int) + 1 by unfold wrap64; omega])
              simp [intOf]; omega
        · have hbad : wholeO d.data.toList = none := whole_bad_pos H45.out (bad_digV h1 hdig)
          have HBAD := Lib.hid hbad
          clear hbad
          have hor : b < 48 ∨ 57 < b := by
            by_cases g : b < 48
            · exact .inl g
            · refine .inr ?_
              have : ¬ (48 ≤ d[i].toNat ∧ d[i].toNat ≤ 57) := hdig
              omega
          clear hdig
          rcases hor with g | g
          · have g1 : (b : Int) < 48 := by omega
            clear g
            go_wp2_with (go_at_call 32; refine (relstoreref_null _).mono ?_; rintro e w1 ⟨rfl, hb⟩; obtain ⟨hc, hf⟩ := bcell hb; have hz := hb.size; (try simp at hz); have hz0 : w.heap.size < w1.heap.size := (by omega); have hz1 : w.heap.size + 1 < w1.heap.size := (by omega))
            refine bodyPost_ret (v := .agg #[.int .i64 0, .int .i64 0, .string ⟨#[]⟩]) (by simp [results, Tryd.results56, go_sem, *]) rfl ⟨?_, ?_⟩
            · rw [HBAD.out]; rfl
            · exact (((bel_step HB.out hb HB.out.size).setCell (by simp) _).setCell (by simp) _).setCell (by simp) _
          · have g1 : ¬ (b : Int) < 48 := by omega
            have g2 : (57 : Int) < b := by omega
            clear g
            go_wp2_with (go_at_call 32; refine (relstoreref_null _).mono ?_; rintro e w1 ⟨rfl, hb⟩; obtain ⟨hc, hf⟩ := bcell hb; have hz := hb.size; (try simp at hz); have hz0 : w.heap.size < w1.heap.size := (by omega); have hz1 : w.heap.size + 1 < w1.heap.size := (by omega))
            refine bodyPost_ret (v := .agg #[.int .i64 0, .int .i64 0, .string ⟨#[]⟩]) (by simp [results, Tryd.results56, go_sem, *]) rfl ⟨?_, ?_⟩
            · rw [HBAD.out]; rfl
            · exact (((bel_step HB.out hb HB.out.size).setCell (by simp) _).setCell (by simp) _).setCell (by simp) _
      · obtain rfl : i = d.size := by omega
        by_cases h2 : d.size = 0
        · have q2 : d.toList = [] := by rw [Lib.toList_data]; exact List.length_eq_zero_iff.1 (by rw [Array.length_toList]; exact h2)
          have q3 : (d.toList == []) = true := by rw [q2]; rfl
          have hnone : wholeO d.data.toList = none := whole_none_pos h2
          have HNO := Lib.hid hnone
          have H2 := Lib.hid h2
          clear hnone q2 h1 h2 hi
          go_wp2_with (go_at_call 32; refine (relstoreref_null _).mono ?_; rintro e w1 ⟨rfl, hb⟩; obtain ⟨hc, hf⟩ := bcell hb; have hz := hb.size; (try simp at hz); have hz0 : w.heap.size < w1.heap.size := (by omega); have hz1 : w.heap.size + 1 < w1.heap.size := (by omega))
          refine bodyPost_ret (v := .agg #[.int .i64 0, .int .i64 0, .string ⟨#[]⟩]) (by simp [results, Tryd.results56, go_sem, *]) rfl ⟨?_, ?_⟩
          · rw [HNO.out]; rfl
          · exact (((bel_step HB.out hb HB.out.size).setCell (by simp) _).setCell (by simp) _).setCell (by simp) _
        · have q2 : ¬ d.toList = [] := by
            intro e; rw [Lib.toList_data] at e
            exact size_some h2 e
          have q3 : (d.toList == []) = false := by rw [beq_eq_false_iff_ne]; exact q2
          have HFIN : Hid (wholeO d.data.toList = fitO (sval false l)) := by
            have e := HU.out
            rw [List.take_of_length_le (by rw [Array.length_toList]; exact Nat.le_refl _)] at e
            exact whole_end_pos H45.out h2 e HV.out
          have LL := Lib.hid HLN.out
          have VC := Lib.hid (fun w1 (h : IS w1 C k l) => ref_value false C k c l w1 h HD.out HC.out (by have := HV3.out.1; have := HLN.out; have := SZ.out; omega))
          have HV5 := Lib.hid (HV3.out.far HV4.out ⟨w.heap.size + 1, 0, none⟩ (.bool false) (by simp))
          have HB5 := Lib.hid (HB.out.setCell (p := ⟨w.heap.size + 1, 0, none⟩) (by simp) (.bool false))
          obtain ⟨K, hK⟩ : ∃ K, recK (fitO (sval false l)) = K := ⟨_, rfl⟩
          obtain ⟨N, hN⟩ : ∃ N, recN (fitO (sval false l)) = N := ⟨_, rfl⟩
          simp only [hK, hN] at VC
          have HK := Lib.hid hK; have HN1 := Lib.hid hN
          clear q2 h1 h2 hi hK hN
          
          go_wp2_with (go_at_call 68; refine (VC.out _ HV5.out).mono ?_; rintro e w1 ⟨rfl, hb⟩; obtain ⟨hc, hf⟩ := bcell hb; have hz := hb.size; (try simp at hz); have hz0 : w.heap.size < w1.heap.size := (by omega); have hz1 : w.heap.size + 1 < w1.heap.size := (by omega))
          refine bodyPost_ret (v := .agg #[.int .i64 K, .int .i64 N, .string ⟨#[]⟩]) (by simp [results, Tryd.results56, go_sem, *]) rfl ⟨?_, ?_⟩
          · rw [HFIN.out, HK.out, HN1.out]
          · exact (((bel_step HB5.out hb HB5.out.size).setCell (by simp) _).setCell (by simp) _).setCell (by simp) _
  
  · have h2 : d.size = 0 := by omega
    have hq : d.toList = [] := by rw [Lib.toList_data]; exact size_nil h2
    have hq2 : (d.toList == []) = true := by rw [hq]; rfl
    have H2 := Lib.hid h2
    clear h45 h2
    go_enter Tryd.func56, Tryd.ntmps56
    go_wp2_with fail
    clear hq hq2
    have HW := Lib.hid (WS.start w)
    clear hs
    go_loopw [5] (fun v5 wr => ∃ (i u : Nat) (l : List Int), v5 = .int .i64 i ∧ i ≤ d.size ∧ digV (d.data.toList.take i) 0 = some u ∧ Digs l ∧ Canon l ∧ valD l = u ∧ l.length ≤ 6 * i ∧ WS w l wr) (fun v5 _ => d.size - (intOf v5).toNat)
    case atStart => exact ⟨0, 0, [], rfl, Nat.zero_le _, rfl, Digs.nil, (fun m h => by simp at h), rfl, Nat.le_refl _, HW.out⟩
    case round =>
      obtain ⟨i, u, l, rfl, hi, hu, hdg, hcn, hv, hlen, hbel, hX, v, hN, C, k, c, rfl, v1, v2, v3, v4⟩ := hrel
      have HU := Lib.hid hu; have HD := Lib.hid hdg; have HC := Lib.hid hcn; have HV := Lib.hid hv; have HLN := Lib.hid hlen
      have HB := Lib.hid hbel; have HX := Lib.hid hX; have HN := Lib.hid hN; have HV3 := Lib.hid v3; have HV4 := Lib.hid v4
      clear hu hdg hcn hv hlen hbel hX hN v3 v4 HW
      have LK := Lib.hid HV3.out.1
      obtain ⟨n0, n1⟩ := HN.out.cells2
      have nz := HN.out.lt
      have nf := HN.out.frozen
      obtain ⟨x0, x1, x2⟩ := HX.out.cells3
      have xz := HX.out.lt
      have xf := HX.out.frozen
      by_cases h1 : i < d.size
      · exfalso; omega
      · obtain rfl : i = d.size := by omega
        by_cases h2 : d.size = 0
        · have q2 : d.toList = [] := by rw [Lib.toList_data]; exact List.length_eq_zero_iff.1 (by rw [Array.length_toList]; exact h2)
          have q3 : (d.toList == []) = true := by rw [q2]; rfl
          have hnone : wholeO d.data.toList = none := whole_none_pos h2
          have HNO := Lib.hid hnone
          have H2 := Lib.hid h2
          clear hnone q2 h1 h2 hi
          go_wp2_with (go_at_call 32; refine (relstoreref_null _).mono ?_; rintro e w1 ⟨rfl, hb⟩; obtain ⟨hc, hf⟩ := bcell hb; have hz := hb.size; (try simp at hz); have hz0 : w.heap.size < w1.heap.size := (by omega); have hz1 : w.heap.size + 1 < w1.heap.size := (by omega))
          refine bodyPost_ret (v := .agg #[.int .i64 0, .int .i64 0, .string ⟨#[]⟩]) (by simp [results, Tryd.results56, go_sem, *]) rfl ⟨?_, ?_⟩
          · rw [HNO.out]; rfl
          · exact (((bel_step HB.out hb HB.out.size).setCell (by simp) _).setCell (by simp) _).setCell (by simp) _
        · have q2 : ¬ d.toList = [] := by
            intro e; rw [Lib.toList_data] at e
            exact size_some h2 e
          have q3 : (d.toList == []) = false := by rw [beq_eq_false_iff_ne]; exact q2
          have HFIN : Hid (wholeO d.data.toList = fitO (sval false l)) := by
            have e := HU.out
            rw [List.take_of_length_le (by rw [Array.length_toList]; exact Nat.le_refl _)] at e
            exact whole_end_pos H45.out h2 e HV.out
          have LL := Lib.hid HLN.out
          have VC := Lib.hid (fun w1 (h : IS w1 C k l) => ref_value false C k c l w1 h HD.out HC.out (by have := HV3.out.1; have := HLN.out; have := SZ.out; omega))
          have HV5 := Lib.hid (HV3.out.far HV4.out ⟨w.heap.size + 1, 0, none⟩ (.bool false) (by simp))
          have HB5 := Lib.hid (HB.out.setCell (p := ⟨w.heap.size + 1, 0, none⟩) (by simp) (.bool false))
          obtain ⟨K, hK⟩ : ∃ K, recK (fitO (sval false l)) = K := ⟨_, rfl⟩
          obtain ⟨N, hN⟩ : ∃ N, recN (fitO (sval false l)) = N := ⟨_, rfl⟩
          simp only [hK, hN] at VC
          have HK := Lib.hid hK; have HN1 := Lib.hid hN
          clear q2 h1 h2 hi hK hN
          
          go_wp2_with (go_at_call 68; refine (VC.out _ HV5.out).mono ?_; rintro e w1 ⟨rfl, hb⟩; obtain ⟨hc, hf⟩ := bcell hb; have hz := hb.size; (try simp at hz); have hz0 : w.heap.size < w1.heap.size := (by omega); have hz1 : w.heap.size + 1 < w1.heap.size := (by omega))
          refine bodyPost_ret (v := .agg #[.int .i64 K, .int .i64 N, .string ⟨#[]⟩]) (by simp [results, Tryd.results56, go_sem, *]) rfl ⟨?_, ?_⟩
          · rw [HFIN.out, HK.out, HN1.out]
          · exact (((bel_step HB5.out hb HB5.out.size).setCell (by simp) _).setCell (by simp) _).setCell (by simp) _
  

end Go.Proofs.YtlkkpgdgnnknpaaDoor
