/-
  longOf, plus of the reference's long numbers.
-/
import Derived.Test.YtlkkpgdgnnknpaaDoorLong2
import Derived.Test.YtlkkpgdgnnknpaaDoorInv
import Derived.Test.YtlkkpgdgnnknpaaDoorNum64
import Derived.Test.YtlkkpgdgnnknpaaDoorVal0
namespace Go.Proofs.YtlkkpgdgnnknpaaDoor
open Go.RowKit
set_option linter.unusedVariables false
set_option linter.unusedSimpArgs false
open Go.BigFrame
attribute [local go_sem] OpGood goodUpon fillA Act.put

/-- a long number by value: its sign, and a new slice that reads as its digits -/
def LongPost (w : World) (m : Bool) (l : List Int) (e : Ending) (w' : World) : Prop := ∃ A n c, e = .returned (.agg #[.bool m, .slice A n c]) ∧ n ≤ c ∧ c ≤ 9223372036854775807 ∧ IS w' A n l ∧ Fresh w.heap.size A ∧ Below w.heap.size w w'

/-- the digits that are still to come -/
theorem digs_step {n : Int} (h : n ≠ 0) : digsOf n.natAbs = (if n.tmod 10000 < 0 then - n.tmod 10000 else n.tmod 10000) :: digsOf (n.tdiv 10000).natAbs := by
  rw [digsOf_pos (by omega)]
  have e1 : (n.tdiv 10000).natAbs = n.natAbs / 10000 := Int.natAbs_tdiv n 10000
  have e2 := Int.natAbs_tmod n 10000
  rw [e1]
  congr 1
  rw [show ((10000 : Int).natAbs) = 10000 from rfl] at e2
  have e3 : ((n.tmod 10000).natAbs : Int) = ((n.natAbs % 10000 : Nat) : Int) := by rw [e2]
  generalize n.tmod 10000 = r at *
  split <;> omega

theorem digs_pos {n : Int} (h : 0 < n) : digsOf n.natAbs = (n % 10000) :: digsOf (n / 10000).natAbs := by
  rw [digsOf_pos (by omega)]
  congr 1
  · omega
  · congr 1; omega
theorem digs_len {n : Int} (h : inI n) : (digsOf n.natAbs).length ≤ 5 := digsOf_len (k := 5) (by unfold inI at h; simp [bp]; omega)
theorem tdiv10_in {n : Int} (h : inI n) : inI (n.tdiv 10000) := by
  have e1 : (n.tdiv 10000).natAbs = n.natAbs / 10000 := Int.natAbs_tdiv n 10000
  unfold inI at *; generalize n.tdiv 10000 = q at *; omega
theorem tdiv10_lt {n : Int} (h : n ≠ 0) : (n.tdiv 10000).natAbs < n.natAbs := by
  have e1 : (n.tdiv 10000).natAbs = n.natAbs / 10000 := Int.natAbs_tdiv n 10000
  omega
theorem tmod10_bd (n : Int) : -10000 < n.tmod 10000 ∧ n.tmod 10000 < 10000 := by
  have e2 := Int.natAbs_tmod n 10000
  rw [show ((10000 : Int).natAbs) = 10000 from rfl] at e2
  generalize n.tmod 10000 = r at *
  omega
theorem own_set {w : World} {base : Nat} {e : TypeId} {size : Nat} {v : Value} {n : Nat} {xs : List Value} (h : w.ownsRow base e size v n xs) (p : Addr) (u : Value) (hp : p.block < base) : (w.setCell p u).ownsRow base e size v n xs :=
  h.kept (grownBy_setCell p u) (by
    cases hv : v.ownBlock with
    | none => exact .inl rfl
    | some k => exact .inr (fun e => by have := (h.lt k hv).1; injection e with e; omega))

theorem own_IS {w : World} {base : Nat} {e : TypeId} {A : Option Addr} {c n : Nat} {l : List Int} (h : w.ownsRow base e 1 (.slice A n c) n (ints l)) : IS w A n l := by
  obtain ⟨A', c', h', _, hi⟩ := IS.of_own h
  cases h'; exact hi
theorem own_ne {w : World} {base : Nat} {e : TypeId} {size : Nat} {v : Value} {n : Nat} {xs : List Value} (h : w.ownsRow base e size v n xs) {g : Nat} (hg : g < base) : some g ≠ v.ownBlock := fun e => by
  have := (h.lt g e.symm).1; omega
theorem own_low {w : World} {base b : Nat} {e : TypeId} {size : Nat} {v : Value} {n : Nat} {xs : List Value} (h : w.ownsRow base e size v n xs) (hb : b ≤ base) : w.ownsRow b e size v n xs := by
  refine ⟨h.1, ?_⟩
  rcases h.2 with h | ⟨g, cap, cur, hv, hbg, r⟩
  · exact .inl h
  · exact .inr ⟨g, cap, cur, hv, Nat.le_trans hb hbg, r⟩
theorem own_room {w : World} {base : Nat} {e : TypeId} {size : Nat} {A : Option Addr} {c n : Nat} {xs : List Value} (h : w.ownsRow base e size (.slice A n c) n xs) : n ≤ c ∧ c ≤ 9223372036854775807 := by
  rcases h.2 with ⟨h, h0⟩ | ⟨g, cap, cur, h, _, _, hnc, hcm, _⟩
  · cases h; omega
  · cases h; unfold maxLen at hcm; omega
theorem own_form {w : World} {base : Nat} {e : TypeId} {size : Nat} {v : Value} {n : Nat} {xs : List Value} (h : w.ownsRow base e size v n xs) : ∃ A c, v = .slice A n c := by
  rcases h.2 with ⟨hv, h0⟩ | ⟨g, cap, cur, hv, _⟩
  · exact ⟨none, 0, by rw [hv, h0]⟩
  · exact ⟨_, _, hv⟩
/-- the state of longOf's loop -/
def LO (w : World) (m : Bool) (n0 n : Int) (i : Nat) (wr : World) : Prop :=
  ∃ A c done, digsOf n0.natAbs = done ++ digsOf n.natAbs ∧ done.length = i ∧ wr.ownsRow (w.heap.size + 2) 3 1 (.slice A i c) i (ints done) ∧
    Has wr w.heap.size 82 #[.bool false, .slice none 0 0] ∧ Has wr (w.heap.size + 1) 82 #[.bool m, .slice A i c] ∧ Below w.heap.size w wr

theorem LO.step {w w2 : World} {m : Bool} {n0 n n' d : Int} {done : List Int} {A A2 : Option Addr} {c c2 : Nat} (hd : digsOf n0.natAbs = done ++ digsOf n.natAbs) (hs : digsOf n.natAbs = d :: digsOf n'.natAbs)
    (hR : Has w2 w.heap.size 82 #[.bool false, .slice none 0 0]) (hX : Has w2 (w.heap.size + 1) 82 #[.bool m, .slice A done.length c])
    (ho : w2.ownsRow (w.heap.size + 2) 3 1 (.slice A2 (done.length + 1) c2) (done.length + 1) (ints done ++ [.int .i64 d])) (hb : Below w.heap.size w w2) :
    LO w m n0 n' (done.length + 1) (w2.setCell ⟨w.heap.size + 1, 1, none⟩ (.slice A2 (done.length + 1) c2)) := by
  refine ⟨A2, c2, done ++ [d], by rw [hd, hs]; simp, by simp, ?_, hR.far (by simp) _, hX.set 1 _, hb.setCell (by simp) _⟩
  have e : ints (done ++ [d]) = ints done ++ [.int .i64 d] := by simp [ints]
  rw [e]
  exact own_set ho _ _ (by simp)

set_option maxRecDepth 100000 in
set_option maxHeartbeats 3200000 in
theorem ref_longOf (n0 : Int) (hn0 : inI n0) (w : World) :
    Calls Tryd.prog 66 #[.int .i64 n0] w (LongPost w (decide (n0 < 0)) (digsOf n0.natAbs)) := by
  obtain ⟨i0, hi, hz0, hz1, hz2⟩ := info_parts infoInt
  have hlen := digs_len hn0
  have HL := Lib.hid hlen; clear hlen
  obtain ⟨m, hm⟩ : ∃ m, decide (n0 < 0) = m := ⟨_, rfl⟩
  rw [hm]
  go_enter Tryd.func66, Tryd.ntmps66
  go_wp2_with fail
  have HM := Lib.hid hm; clear hm
  go_loopw [0] (fun v0 wr => ∃ n i, v0 = .int .i64 n ∧ inI n ∧ LO w m n0 n i wr) (fun v0 _ => (intOf v0).natAbs)
  case atStart =>
    refine ⟨n0, 0, rfl, hn0, none, 0, [], rfl, rfl, World.ownsRow_nil _ _ _ _, ?_, ?_, ?_⟩
    · exact (Has.new w _ _).alloc _
    · have := Has.new (w.alloc (.cells #[.bool false, .slice none 0 0] 82)) 82 #[.bool m, .slice none 0 0]
      simpa using this
    · (repeat (first | exact Below.refl _ _ | assumption | (refine Below.setCell ?_ (by first | omega | (simp <;> omega)) _) | refine Below.drew ?_ | (refine Below.alloc ?_ (by first | omega | (simp <;> omega)) _) | (refine bel_step ?_ (by assumption) (by first | omega | (simp <;> omega)))))
  case round =>
    obtain ⟨n, i, rfl, hn, A, c, done, hd, rfl, hown, hR, hX, hbel⟩ := hrel
    have HD := Lib.hid hd; clear hd
    have HNI := Lib.hid hn; clear hn
    have z0 := hX.lt
    obtain ⟨x0, x1⟩ := hX.cells2
    have HR := Lib.hid hR; have HX := Lib.hid hX; have HB := Lib.hid hbel; have HO := Lib.hid hown
    clear hR hX hbel hown
    by_cases h0 : n = 0
    · subst h0
      obtain ⟨r0, r1⟩ := HR.out.cells2
      have rf := HR.out.frozen
      obtain ⟨q1, q2⟩ := own_room HO.out
      have hz : w.heap.size < wr.heap.size := by omega
      go_wp2_with fail
      refine bodyPost_ret (v := .agg #[.bool m, .slice A done.length c]) (by simp [results, Tryd.results66, go_sem, *]) rfl ⟨A, done.length, c, rfl, q1, q2, ?_, fun a ha => by have := own_fresh HO.out a ha; omega, ?_⟩
      · have := HD.out
        rw [show (0 : Int).natAbs = 0 from rfl, digsOf_zero, List.append_nil] at this
        rw [this]
        exact own_IS (own_set (own_set HO.out _ _ (by simp)) _ _ (by simp))
      · exact (HB.out.setCell (by simp) _).setCell (by simp) _
    · have G0 : done.length + 1 ≤ 6 := by
        have := HL.out
        rw [HD.out, List.length_append] at this
        omega
      have G1 := Lib.hid (show done.length + 1 ≤ maxLen by unfold maxLen; omega)
      have G2 := Lib.hid (show (done.length + 1) * 8 ≤ 140737488355328 by omega)
      have hb0 := tmod10_bd n
      obtain ⟨t0, t1⟩ := hb0
      have TL := Lib.hid (tdiv10_lt h0)
      have TI := Lib.hid (tdiv10_in HNI.out)
      have DS := Lib.hid (digs_step h0)
      have DP := Lib.hid (fun h => digs_pos (n := n) h)
      have n1 : -9223372036854775808 ≤ n := HNI.out.1
      have n2 : n ≤ 9223372036854775807 := HNI.out.2
      have APP := Lib.hid (fun x : Int => Src.ofSlice (P := Tryd.prog) (tx := 80) (size := 1) (wr.alloc (.cells #[.int .i64 x] 3)) Tryd.underlying80 ⟨wr.heap.size, 0, none⟩ 1 1 [.int .i64 x] rfl (World.news_of_block (heap_alloc_new wr _)) (ints_one (l := [x])))
      have HS := Lib.hid (HB.out.size)
      by_cases hp : 0 < n
      · have e1 : n.tdiv 10000 = n / 10000 := by rw [Int.tdiv_eq_ediv_of_nonneg (by omega)]
        rw [e1] at TL TI
        clear t0 t1 e1 DS
        go_wp2_with (at_builtin; (refine wpList_append_src _ rfl (.tmp 17) (.tmp 19) 80 80 rfl (w.heap.size + 2) 3 i0 _ 1 8 Tryd.underlying80 hi hz0 hz1 hz2 rfl (by decide) (.slice A done.length c) done.length (ints done) rfl (HO.out.alloc _) (.slice (some ⟨wr.heap.size, 0, none⟩) 1 1) 1 _ rfl (APP.out _) G1.out G2.out (by simp; omega) ?_); intro v2 w2 hown2 hg2 _ _; obtain ⟨A2, c2, hv2⟩ := own_form hown2; rw [hv2]; rw [hv2] at hown2; clear hv2; have hX2 := (HX.out.alloc (.cells #[.int .i64 _] 3)).grown hg2 (own_ne HO.out (by omega)); have hR2 := (HR.out.alloc (.cells #[.int .i64 _] 3)).grown hg2 (own_ne HO.out (by omega)); obtain ⟨y0, y1⟩ := hX2.cells2; have y2 := hX2.frozen; have y3 := hX2.lt; have HX2 := Lib.hid hX2; have HR2 := Lib.hid hR2; have HO2 := Lib.hid hown2; have HB2 := Lib.hid (below_grown (HB.out.alloc HB.out.size (.cells #[.int .i64 _] 3)) (own_low (HO.out.alloc _) (show w.heap.size ≤ w.heap.size + 2 by omega)) hg2 (Nat.le_trans HB.out.size (by simp))); clear hX2 hR2 hown2 hg2)
        go_roundw
        case rel => exact ⟨_, _, rfl, TI.out, LO.step HD.out (DP.out hp) HR2.out HX2.out HO2.out HB2.out⟩
        case measure => simp only [intOf]; exact TL.out
      · have hp2 : n < 0 := by omega
        by_cases hr : n.tmod 10000 < 0
        · have DS2 := Lib.hid (DS.out.trans (by rw [if_pos hr]))
          clear DS DP
          go_wp2_with (at_builtin; (refine wpList_append_src _ rfl (.tmp 17) (.tmp 19) 80 80 rfl (w.heap.size + 2) 3 i0 _ 1 8 Tryd.underlying80 hi hz0 hz1 hz2 rfl (by decide) (.slice A done.length c) done.length (ints done) rfl (HO.out.alloc _) (.slice (some ⟨wr.heap.size, 0, none⟩) 1 1) 1 _ rfl (APP.out _) G1.out G2.out (by simp; omega) ?_); intro v2 w2 hown2 hg2 _ _; obtain ⟨A2, c2, hv2⟩ := own_form hown2; rw [hv2]; rw [hv2] at hown2; clear hv2; have hX2 := (HX.out.alloc (.cells #[.int .i64 _] 3)).grown hg2 (own_ne HO.out (by omega)); have hR2 := (HR.out.alloc (.cells #[.int .i64 _] 3)).grown hg2 (own_ne HO.out (by omega)); obtain ⟨y0, y1⟩ := hX2.cells2; have y2 := hX2.frozen; have y3 := hX2.lt; have HX2 := Lib.hid hX2; have HR2 := Lib.hid hR2; have HO2 := Lib.hid hown2; have HB2 := Lib.hid (below_grown (HB.out.alloc HB.out.size (.cells #[.int .i64 _] 3)) (own_low (HO.out.alloc _) (show w.heap.size ≤ w.heap.size + 2 by omega)) hg2 (Nat.le_trans HB.out.size (by simp))); clear hX2 hR2 hown2 hg2)
          go_roundw
          case rel => exact ⟨_, _, rfl, TI.out, LO.step HD.out DS2.out HR2.out HX2.out HO2.out HB2.out⟩
          case measure => simp only [intOf]; exact TL.out
        · have DS2 := Lib.hid (DS.out.trans (by rw [if_neg hr]))
          clear DS DP
          go_wp2_with (at_builtin; (refine wpList_append_src _ rfl (.tmp 17) (.tmp 19) 80 80 rfl (w.heap.size + 2) 3 i0 _ 1 8 Tryd.underlying80 hi hz0 hz1 hz2 rfl (by decide) (.slice A done.length c) done.length (ints done) rfl (HO.out.alloc _) (.slice (some ⟨wr.heap.size, 0, none⟩) 1 1) 1 _ rfl (APP.out _) G1.out G2.out (by simp; omega) ?_); intro v2 w2 hown2 hg2 _ _; obtain ⟨A2, c2, hv2⟩ := own_form hown2; rw [hv2]; rw [hv2] at hown2; clear hv2; have hX2 := (HX.out.alloc (.cells #[.int .i64 _] 3)).grown hg2 (own_ne HO.out (by omega)); have hR2 := (HR.out.alloc (.cells #[.int .i64 _] 3)).grown hg2 (own_ne HO.out (by omega)); obtain ⟨y0, y1⟩ := hX2.cells2; have y2 := hX2.frozen; have y3 := hX2.lt; have HX2 := Lib.hid hX2; have HR2 := Lib.hid hR2; have HO2 := Lib.hid hown2; have HB2 := Lib.hid (below_grown (HB.out.alloc HB.out.size (.cells #[.int .i64 _] 3)) (own_low (HO.out.alloc _) (show w.heap.size ≤ w.heap.size + 2 by omega)) hg2 (Nat.le_trans HB.out.size (by simp))); clear hX2 hR2 hown2 hg2)
          go_roundw
          case rel => exact ⟨_, _, rfl, TI.out, LO.step HD.out DS2.out HR2.out HX2.out HO2.out HB2.out⟩
          case measure => simp only [intOf]; exact TL.out

end Go.Proofs.YtlkkpgdgnnknpaaDoor
