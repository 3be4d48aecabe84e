/-
  Like of the reference; Like of package value.
-/
import Derived.Test.YtlkkpgdgnnknpaaDoorText1
import Derived.Test.YtlkkpgdgnnknpaaDoorText5
import Derived.Laws.MakeOwn
import Derived.BigQuiet
import Derived.Lib.Strings
namespace Go.Proofs.YtlkkpgdgnnknpaaDoor
open Go.RowKit
open Go.BigFrame
set_option linter.unusedVariables false
set_option linter.unusedSimpArgs false

def bools (l : List Bool) : Array Value := (l.map Value.bool).toArray
theorem bools_at {l : List Bool} {i : Nat} {b : Bool} (h : l[i]? = some b) : (bools l)[i]? = some (.bool b) := by simp [bools, h]
theorem bools_set (l : List Bool) (i : Nat) (b : Bool) : (bools l).setIfInBounds i (.bool b) = bools (l.set i b) := by simp [bools, List.map_set]
theorem Tryd.infoBool : (Tryd.prog.info? 4).map (fun i => (i.zero, i.size, i.bytes)) = some (some (.bool false), 1, 1) := by kernel_rfl
theorem made_bools (m : Nat) : madeCells #[Value.bool false] m = bools (List.replicate m false) := by
  apply Array.ext'
  rw [show (bools (List.replicate m false)).toList = List.replicate m (Value.bool false) by simp [bools]]
  refine List.eq_replicate_iff.2 ⟨by simp [size_madeCells], fun b hb => ?_⟩
  simp only [madeCells, Array.toList_map, List.mem_map] at hb
  obtain ⟨a, _, rfl⟩ := hb
  show (#[Value.bool false] : Array Value)[a % 1]! = _
  rw [Nat.mod_one]; rfl
theorem make_bools (n m : Nat) (hm : n + 1 = m) (hi : m ≤ 17592186044416) (w : World) : (Instr.makeSlice 68 (.int .i64 ((n : Int) + 1)) (.int .i64 ((n : Int) + 1))).run Tryd.prog w = .ok (.slice (some ⟨w.heap.size, 0, none⟩) m m) (w.alloc (.cells (bools (List.replicate m false)) 4)) := by
  obtain ⟨i0, hi0, hz0, hz1, hz2⟩ := info_parts Tryd.infoBool
  have := run_make (P := Tryd.prog) w 68 4 i0 _ Tryd.underlying68 hi0 hz0 .i64 .i64 (m : Int) (m : Int) (by omega) (by omega) (by rw [hz2]; omega) (by omega)
  rw [hz1, show (Value.bool false).cells = #[.bool false] from rfl, Int.toNat_natCast, Nat.mul_one, made_bools] at this
  rw [show (n : Int) + 1 = (m : Int) by omega]
  exact this

/-- the state between two rounds: what came in, and the row -/
structure LS (w : World) (a p : Array Value) (g : Nat) (L : List Bool) (wr : World) : Prop where
  bel : Below w.heap.size w wr
  ha : Has wr w.heap.size 38 a
  hp : Has wr (w.heap.size + 1) 38 p
  hr : Has wr (w.heap.size + 1 + 1) 38 #[.int .i64 0, .int .i64 0, .string ⟨#[]⟩]
  low : w.heap.size + 3 ≤ g
  row : Has wr g 4 (bools L)
section
variable {w wr w' : World} {a p : Array Value} {g g' : Nat} {L L' : List Bool}
theorem LS.below (h : LS w a p g L wr) (hb : Below wr.heap.size wr w') : LS w a p g L w' :=
  ⟨bel_step h.bel hb h.bel.size, h.ha.belowS hb, h.hp.belowS hb, h.hr.belowS hb, h.low, h.row.belowS hb⟩
theorem LS.alloc (h : LS w a p g L wr) (o : Obj) : LS w a p g L (wr.alloc o) := h.below ((Below.refl _ _).alloc (Nat.le_refl _) _)
theorem LS.far (h : LS w a p g L wr) (q : Nat) (hq : w.heap.size + 3 ≤ q) (hg : g ≠ q) (i : Nat) (v : Value) : LS w a p g L (wr.setCell ⟨q, i, none⟩ v) :=
  ⟨h.bel.setCell (by show w.heap.size ≤ q; omega) _, h.ha.far (by show w.heap.size ≠ q; omega) _, h.hp.far (by show w.heap.size + 1 ≠ q; omega) _, h.hr.far (by show w.heap.size + 1 + 1 ≠ q; omega) _, h.low, h.row.far hg _⟩
theorem LS.set (h : LS w a p g L wr) (i : Nat) (b : Bool) : LS w a p g (L.set i b) (wr.setCell ⟨g, i, none⟩ (.bool b)) := by
  have hl := h.low
  refine ⟨h.bel.setCell (by show w.heap.size ≤ g; omega) _, h.ha.far (by show w.heap.size ≠ g; omega) _, h.hp.far (by show w.heap.size + 1 ≠ g; omega) _, h.hr.far (by show w.heap.size + 1 + 1 ≠ g; omega) _, h.low, ?_⟩
  have := h.row.set i (.bool b)
  rwa [bools_set] at this
theorem LS.start (w : World) (a p : Array Value) (L : List Bool) : LS w a p (w.heap.size + 1 + 1 + 1) L ((((w.alloc (.cells a 38)).alloc (.cells p 38)).alloc (.cells #[.int .i64 0, .int .i64 0, .string ⟨#[]⟩] 38)).alloc (.cells (bools L) 4)) := by
  refine ⟨(((Below.refl _ _).alloc (Nat.le_refl _) _).alloc (by simp) _).alloc (by simp; omega) _ |>.alloc (by simp; omega) _, ((Has.new _ _ _).alloc _).alloc _ |>.alloc _, ?_, ?_, by omega, ?_⟩
  · have q : Has ((w.alloc (.cells a 38)).alloc (.cells p 38)) (w.heap.size + 1) 38 p := by
      have := Has.new (w.alloc (.cells a 38)) 38 p
      simpa using this
    exact (q.alloc _).alloc _
  · have q : Has (((w.alloc (.cells a 38)).alloc (.cells p 38)).alloc (.cells #[.int .i64 0, .int .i64 0, .string ⟨#[]⟩] 38)) (w.heap.size + 1 + 1) 38 #[.int .i64 0, .int .i64 0, .string ⟨#[]⟩] := by
      have := Has.new ((w.alloc (.cells a 38)).alloc (.cells p 38)) 38 #[.int .i64 0, .int .i64 0, .string ⟨#[]⟩]
      simpa using this
    exact q.alloc _
  · have := Has.new (((w.alloc (.cells a 38)).alloc (.cells p 38)).alloc (.cells #[.int .i64 0, .int .i64 0, .string ⟨#[]⟩] 38)) 4 (bools L)
    simpa using this
end

/-- the state between two rounds of the inner loop: the row ahead, and the one that is being made -/
def LS2 (w : World) (a p : Array Value) (g : Nat) (L : List Bool) (g2 : Nat) (L2 : List Bool) (wx : World) : Prop := LS w a p g L wx ∧ LS w a p g2 L2 wx ∧ g ≠ g2
theorem LS2.start {w wr : World} {a p : Array Value} {g : Nat} {L : List Bool} (h : LS w a p g L wr) (L2 : List Bool) : LS2 w a p g L wr.heap.size L2 (wr.alloc (.cells (bools L2) 4)) := by
  have hg : g < wr.heap.size := h.row.lt
  have hl := h.low
  have h2 := h.alloc (.cells (bools L2) 4)
  exact ⟨h2, ⟨h2.bel, h2.ha, h2.hp, h2.hr, by omega, Has.new _ _ _⟩, by omega⟩
theorem LS2.set {w wx : World} {a p : Array Value} {g g2 : Nat} {L L2 : List Bool} (h : LS2 w a p g L g2 L2 wx) (i : Nat) (b : Bool) : LS2 w a p g L g2 (L2.set i b) (wx.setCell ⟨g2, i, none⟩ (.bool b)) :=
  ⟨h.1.far g2 h.2.1.low h.2.2 i _, h.2.1.set i b, h.2.2⟩
theorem LS2.below {w wx w' : World} {a p : Array Value} {g g2 : Nat} {L L2 : List Bool} (h : LS2 w a p g L g2 L2 wx) (hb : Below wx.heap.size wx w') : LS2 w a p g L g2 L2 w' := ⟨h.1.below hb, h.2.1.below hb, h.2.2⟩

theorem partF_st0 {S P : List UInt8} {n M k : Nat} (h : S.length = n) (hM : n + 1 = M) : List.replicate M false = partF S P (k + 1) (0 + 0) := by
  rw [partF_zero, h, hM]
theorem partF_skip {S P : List UInt8} {k i : Nat} {x : UInt8} (hk : k < P.length) (hx : P[k]? = some x) (hn : x ≠ pct) (h : cellF S P k i = false ∨ S.length ≤ i) : partF S P (k + 1) (i + 1 + 1) = partF S P (k + 1) (i + 1) := by
  rcases Nat.lt_or_ge i S.length with hi | hi
  · rcases h with h | h
    · refine partF_next ?_
      rw [cellF_one hk hx hn hi (List.getElem?_eq_getElem hi), h, Bool.false_and]
    · omega
  · rw [partF_past (by omega), partF_past (by omega)]
theorem partF_skip2 {S P : List UInt8} {k i : Nat} {x c : UInt8} (hk : k < P.length) (hx : P[k]? = some x) (hn : x ≠ pct) (hi : i < S.length) (hc : S[i]? = some c) (h1 : ¬ x = und) (h2 : ¬ x = c) : partF S P (k + 1) (i + 1 + 1) = partF S P (k + 1) (i + 1) := by
  refine partF_next ?_
  rw [cellF_one hk hx hn hi hc, beq_eq_false_iff_ne.2 h1, beq_eq_false_iff_ne.2 h2, Bool.or_false, Bool.and_false]
theorem partF_put {S P : List UInt8} {k i : Nat} {x c : UInt8} (hk : k < P.length) (hx : P[k]? = some x) (hn : x ≠ pct) (hi : i < S.length) (hc : S[i]? = some c) (h : cellF S P k i = true) (h2 : x = und ∨ x = c) : (partF S P (k + 1) (i + 1)).set (i + 1) true = partF S P (k + 1) (i + 1 + 1) := by
  have h1 : cellF S P (k + 1) (i + 1) = true := by
    rw [cellF_one hk hx hn hi hc, h, Bool.true_and]
    rcases h2 with rfl | rfl <;> simp
  have := partF_set (s := S) (p := P) (k := k + 1) (i := i + 1) (by omega)
  rwa [h1] at this
theorem partF_st1 {S P : List UInt8} {n M k : Nat} {x : UInt8} (h : S.length = n) (hM : n + 1 = M) (hk : k < P.length) (hx : P[k]? = some x) (hn : x ≠ pct) : List.replicate M false = partF S P (k + 1) (0 + 1) := by
  rw [partF_one0 hk hx hn, h, hM]

set_option maxRecDepth 100000 in
set_option maxHeartbeats 6400000 in
theorem ref_Like_text (n n' : Int) (s p : ByteArray) (M : Nat) (hM : s.size + 1 = M) (hs : s.size ≤ 2000000) (hp : p.size ≤ 2000000) (w : World) (S P : List UInt8) (hS : s.data.toList = S) (hP : p.data.toList = P) :
    Calls Tryd.prog 26 #[.agg #[.int .i64 3, .int .i64 n, .string s], .agg #[.int .i64 3, .int .i64 n', .string p]] w fun e w' => e = .returned (.agg #[.int .i64 1, .int .i64 (flagN (cellF S P P.length S.length)), .string ⟨#[]⟩]) ∧ Below w.heap.size w w' := by
  have MK := make_bools s.size M hM (by omega)
  have HM := Lib.hid hM
  have HSL : Hid (S.length = s.size) := by rw [← hS]; exact Array.length_toList
  have HPL : Hid (P.length = p.size) := by rw [← hP]; exact Array.length_toList
  have HSS := Lib.hid hS; have HPP := Lib.hid hP
  have ROW0 := Lib.hid (show (List.replicate M false).set 0 true = rowF S P 0 by rw [rowF_start, HSL.out, hM])
  have W0 := Lib.hid (LS.start w #[.int .i64 3, .int .i64 n, .string s] #[.int .i64 3, .int .i64 n', .string p] (List.replicate M false))
  have c0 := W0.out.row.cell 0
  rw [bools_at (b := false) (by rw [List.getElem?_replicate, if_pos (by omega)])] at c0
  have M0 : 0 < M := by omega
  have M0i : (0 : Int) < (M : Int) := by omega
  have M3 : M ≤ 3000000 := by omega
  rw [show P.length = p.size from HPL.out, show S.length = s.size from HSL.out]
  obtain ⟨C, hC⟩ : ∃ C, cellF S P p.size s.size = C := ⟨_, rfl⟩
  rw [hC]
  have HCE := Lib.hid hC
  clear hM hS hP W0 hC
  go_enter Tryd.func26, Tryd.ntmps26
  go_wp2_with fail
  have W1 := Lib.hid (LS.start w #[.int .i64 3, .int .i64 n, .string s] #[.int .i64 3, .int .i64 n', .string p] (rowF S P 0))
  rw [bools_set, ROW0.out]
  clear c0 ROW0
  generalize (((w.alloc (.cells #[.int .i64 3, .int .i64 n, .string s] 38)).alloc (.cells #[.int .i64 3, .int .i64 n', .string p] 38)).alloc (.cells #[.int .i64 0, .int .i64 0, .string ⟨#[]⟩] 38)).alloc (.cells (bools (rowF S P 0)) 4) = W at *
  go_loopw [5, 6] (fun v5 v6 wr => ∃ (k g : Nat), v6 = .int .i64 k ∧ k ≤ p.size ∧ v5 = .slice (some ⟨g, 0, none⟩) M M ∧ LS w #[.int .i64 3, .int .i64 n, .string s] #[.int .i64 3, .int .i64 n', .string p] g (rowF S P k) wr) (fun _ v6 _ => p.size - (intOf v6).toNat)
  case atStart => exact ⟨0, _, rfl, Nat.zero_le _, rfl, W1.out⟩
  case round =>
    obtain ⟨k, g, rfl, hkp, rfl, hls⟩ := hrel
    have HS := Lib.hid hls
    clear hls W1
    have a2 := HS.out.ha.cells3.2.2
    have p2 := HS.out.hp.cells3.2.2
    have az := HS.out.ha.lt
    have pz := HS.out.hp.lt
    by_cases hk : k < p.size
    · have HPK : Hid (P[k]? = some p[k]) := by rw [← HPP.out]; exact byte_at p k hk
      by_cases hpct : p[k] = pct
      · have g37 : ((p[k].toNat : Int) == 37) = true := by rw [hpct]; rfl
        rw [hpct] at HPK
        clear hpct
        go_wp2_with fail
        have HLS := Lib.hid (LS2.start HS.out (List.replicate M false))
        generalize wr.alloc (.cells (bools (List.replicate M false)) 4) = wo at *
        rw [partF_st0 (P := P) (k := k) HSL.out HM.out] at HLS
        obtain ⟨g2, hg2⟩ : ∃ g2, wr.heap.size = g2 := ⟨_, rfl⟩
        rw [hg2] at HLS
        simp only [hg2]
        clear hg2 HS a2 p2 az pz
        go_loopw [8, 40] (fun v8 v40 wx => ∃ i : Nat, v40 = .int .i64 i ∧ i ≤ M ∧ v8 = .bool (anyF (cellF S P k) i) ∧ LS2 w #[.int .i64 3, .int .i64 n, .string s] #[.int .i64 3, .int .i64 n', .string p] g (rowF S P k) g2 (partF S P (k + 1) (i + 0)) wx) (fun _ v40 _ => M - (intOf v40).toNat)
        case atStart => exact ⟨0, rfl, Nat.zero_le _, rfl, HLS.out⟩
        case round =>
          obtain ⟨i, rfl, hi, rfl, hls⟩ := hrel
          have HX := Lib.hid hls
          clear hls HLS
          have a2 := HX.out.1.ha.cells3.2.2
          have p2 := HX.out.1.hp.cells3.2.2
          have az := HX.out.1.ha.lt
          have pz := HX.out.1.hp.lt
          have gz := HX.out.2.1.row.lt
          have g1z := HX.out.1.row.lt
          have gf := HX.out.2.1.row.frozen
          by_cases hM : i < M
          · have iM : (i : Int) < (M : Int) := by omega
            have c0 := (HX.out.1.row.cell i).trans (bools_at (rowF_at (s := S) (p := P) (k := k) (i := i) (by rw [HSL.out]; have := HM.out; omega)))
            have AN : Hid (anyF (cellF S P k) (i + 1) = (anyF (cellF S P k) i || cellF S P k i)) := rfl
            obtain ⟨A, hA⟩ : ∃ A, anyF (cellF S P k) i = A := ⟨_, rfl⟩
            obtain ⟨C, hC⟩ : ∃ C, cellF S P k i = C := ⟨_, rfl⟩
            rw [hA, hC] at AN
            rw [hC] at c0
            simp only [hA]
            have HC := Lib.hid hC
            clear hA hC
            have d0 := (HX.out.2.1.row.cell i).trans (bools_at (partF_at (s := S) (p := P) (k := k + 1) (i := i + 0) (j := i) (by rw [HSL.out]; have := HM.out; omega)))
            have SET := Lib.hid (HX.out.set i (A || C))
            have PS : Hid ((partF S P (k + 1) (i + 0)).set i (A || C) = partF S P (k + 1) (i + 1)) := by
              have h1 := partF_set (s := S) (p := P) (k := k + 1) (i := i) (by rw [HSL.out]; have := HM.out; omega)
              rw [cellF_pct (by rw [HPL.out]; exact hk) HPK.out (by rw [HSL.out]; have := HM.out; omega), AN.out] at h1
              exact h1
            rw [PS.out] at SET
            cases A
            · cases C
              · go_wp2_with fail
                go_roundw
                case rel => exact ⟨i + 1, by simp, by omega, congrArg Value.bool AN.out.symm, SET.out⟩
                case measure => simp [intOf]; omega
              · go_wp2_with fail
                go_roundw
                case rel => exact ⟨i + 1, by simp, by omega, congrArg Value.bool AN.out.symm, SET.out⟩
                case measure => simp [intOf]; omega
            · go_wp2_with fail
              go_roundw
              case rel => exact ⟨i + 1, by simp, by omega, congrArg Value.bool AN.out.symm, SET.out⟩
              case measure => simp [intOf]; omega
  
          · obtain rfl : i = M := by omega
            have iM : ¬ (i : Int) < (i : Int) := by omega
            have FIN := Lib.hid (HX.out.2.1)
            rw [partF_past (by rw [HSL.out]; have := HM.out; omega)] at FIN
            go_wp2_with fail
            go_roundw
            case rel => exact ⟨k + 1, g2, by simp, by omega, rfl, FIN.out⟩
            case measure => simp [intOf]; omega
      · have g37 : ((p[k].toNat : Int) == 37) = false := by rw [beq_eq_false_iff_ne]; intro e; exact hpct (u8_eq.2 e)
        have kI : (k : Int) < (p.size : Int) := by omega
        go_wp2_with fail
        have HLS := Lib.hid (LS2.start HS.out (List.replicate M false))
        generalize wr.alloc (.cells (bools (List.replicate M false)) 4) = wo at *
        rw [partF_st1 (P := P) (k := k) HSL.out HM.out (by rw [HPL.out]; exact hk) HPK.out hpct] at HLS
        obtain ⟨g2, hg2⟩ : ∃ g2, wr.heap.size = g2 := ⟨_, rfl⟩
        rw [hg2] at HLS
        simp only [hg2]
        clear hg2 HS a2 p2 az pz
        go_loopw [8, 40] (fun v8 v40 wx => ∃ i : Nat, v40 = .int .i64 i ∧ i ≤ M ∧ v8 = .bool (anyF (cellF S P k) i) ∧ LS2 w #[.int .i64 3, .int .i64 n, .string s] #[.int .i64 3, .int .i64 n', .string p] g (rowF S P k) g2 (partF S P (k + 1) (i + 1)) wx) (fun _ v40 _ => M - (intOf v40).toNat)
        case atStart => exact ⟨0, rfl, Nat.zero_le _, rfl, HLS.out⟩
        case round =>
          obtain ⟨i, rfl, hi, rfl, hls⟩ := hrel
          have HX := Lib.hid hls
          clear hls HLS
          have a2 := HX.out.1.ha.cells3.2.2
          have p2 := HX.out.1.hp.cells3.2.2
          have az := HX.out.1.ha.lt
          have pz := HX.out.1.hp.lt
          have gz := HX.out.2.1.row.lt
          have g1z := HX.out.1.row.lt
          have gf := HX.out.2.1.row.frozen
          by_cases hM : i < M
          · have iM : (i : Int) < (M : Int) := by omega
            have c0 := (HX.out.1.row.cell i).trans (bools_at (rowF_at (s := S) (p := P) (k := k) (i := i) (by rw [HSL.out]; have := HM.out; omega)))
            have AN : Hid (anyF (cellF S P k) (i + 1) = (anyF (cellF S P k) i || cellF S P k i)) := rfl
            obtain ⟨A, hA⟩ : ∃ A, anyF (cellF S P k) i = A := ⟨_, rfl⟩
            obtain ⟨C, hC⟩ : ∃ C, cellF S P k i = C := ⟨_, rfl⟩
            rw [hA, hC] at AN
            rw [hC] at c0
            simp only [hA]
            have HC := Lib.hid hC
            clear hA hC
            have PT : ∀ b, cellF S P (k + 1) (i + 1) = b → Hid (cellF S P (k + 1) (i + 1) = b) := fun b h => h
            cases C
            · have PSK : Hid (partF S P (k + 1) (i + 1) = partF S P (k + 1) (i + 1 + 1)) := (partF_skip (by rw [HPL.out]; exact hk) HPK.out hpct (.inl HC.out)).symm
              cases A
              · go_wp2_with fail
                refine wp_region_cls (wr) (by kernel_rfl) (by kernel_rfl) (Cls.start _) ?_
                repeat
                  first
                    | go_big_quiet_skip
                    | (go_big_quiet_want; (first | go_big_quiet_op | go_simp); first | go_big_quiet_on | (apply Exists.intro; refine ⟨fun w' hw' => ?_, ?_⟩; (· (first | (with_reducible exact rfl) | (fail) | (obtain ⟨hc, hf⟩ := hw'.facts; go_simp; first | done | (with_reducible exact rfl) | (with_reducible exact ⟨rfl, rfl⟩)))); go_big_quiet_on))
                refine wpQuiet_nil ?_
                intro wq hq
                go_wp2_with fail
                go_roundw
                case rel =>
                  refine ⟨i + 1, by simp, by omega, congrArg Value.bool AN.out.symm, ?_⟩
                  rw [← PSK.out]; exact HX.out.below hq.bel
                case measure => simp [intOf]; omega
              · go_wp2_with fail
                refine wp_region_cls (wr) (by kernel_rfl) (by kernel_rfl) (Cls.start _) ?_
                repeat
                  first
                    | go_big_quiet_skip
                    | (go_big_quiet_want; (first | go_big_quiet_op | go_simp); first | go_big_quiet_on | (apply Exists.intro; refine ⟨fun w' hw' => ?_, ?_⟩; (· (first | (with_reducible exact rfl) | (fail) | (obtain ⟨hc, hf⟩ := hw'.facts; go_simp; first | done | (with_reducible exact rfl) | (with_reducible exact ⟨rfl, rfl⟩)))); go_big_quiet_on))
                refine wpQuiet_nil ?_
                intro wq hq
                go_wp2_with fail
                go_roundw
                case rel =>
                  refine ⟨i + 1, by simp, by omega, congrArg Value.bool AN.out.symm, ?_⟩
                  rw [← PSK.out]; exact HX.out.below hq.bel
                case measure => simp [intOf]; omega
            · by_cases hiN : i < s.size
              · have iI : (i : Int) < (s.size : Int) := by omega
                have HSI : Hid (S[i]? = some s[i]) := by rw [← HSS.out]; exact byte_at s i hiN
                have i1 : ((i : Int) + 1) < (M : Int) := by have := HM.out; omega
                have i2 : i + 1 < M := by have := HM.out; omega
                have d0 := (HX.out.2.1.row.cell (i + 1)).trans (bools_at (partF_at (s := S) (p := P) (k := k + 1) (i := i + 1) (j := i + 1) (by rw [HSL.out]; omega)))
                by_cases hu : p[k] = und
                · have g95 : ((p[k].toNat : Int) == 95) = true := by rw [hu]; rfl
                  have PST := Lib.hid (partF_put (by rw [HPL.out]; exact hk) HPK.out hpct (by rw [HSL.out]; exact hiN) HSI.out HC.out (.inl hu))
                  clear hu
                  cases A
                  · go_wp2_with fail
                    refine wp_region_cls (wr) (by kernel_rfl) (by kernel_rfl) (Cls.start _) ?_
                    repeat
                      first
                        | go_big_quiet_skip
                        | (go_big_quiet_want; (first | go_big_quiet_op | go_simp); first | go_big_quiet_on | (apply Exists.intro; refine ⟨fun w' hw' => ?_, ?_⟩; (· (first | (with_reducible exact rfl) | (fail) | (obtain ⟨hc, hf⟩ := hw'.facts; go_simp; first | done | (with_reducible exact rfl) | (with_reducible exact ⟨rfl, rfl⟩)))); go_big_quiet_on))
                    refine wpQuiet_nil ?_
                    intro wq hq
                    have HY := Lib.hid (HX.out.below hq.bel)
                    have d1 := (hq.bel.cell (p := ⟨g2, i + 1, none⟩) gz).trans d0
                    have yf := HY.out.2.1.row.frozen
                    have yz := HY.out.2.1.row.lt
                    clear d0
                    go_wp2_with fail
                    go_roundw
                    case rel =>
                      refine ⟨i + 1, by simp, by omega, congrArg Value.bool AN.out.symm, ?_⟩
                      have := HY.out.set (i + 1) true
                      rw [PST.out] at this; exact this
                    case measure => simp [intOf]; omega
                  · go_wp2_with fail
                    refine wp_region_cls (wr) (by kernel_rfl) (by kernel_rfl) (Cls.start _) ?_
                    repeat
                      first
                        | go_big_quiet_skip
                        | (go_big_quiet_want; (first | go_big_quiet_op | go_simp); first | go_big_quiet_on | (apply Exists.intro; refine ⟨fun w' hw' => ?_, ?_⟩; (· (first | (with_reducible exact rfl) | (fail) | (obtain ⟨hc, hf⟩ := hw'.facts; go_simp; first | done | (with_reducible exact rfl) | (with_reducible exact ⟨rfl, rfl⟩)))); go_big_quiet_on))
                    refine wpQuiet_nil ?_
                    intro wq hq
                    have HY := Lib.hid (HX.out.below hq.bel)
                    have d1 := (hq.bel.cell (p := ⟨g2, i + 1, none⟩) gz).trans d0
                    have yf := HY.out.2.1.row.frozen
                    have yz := HY.out.2.1.row.lt
                    clear d0
                    go_wp2_with fail
                    go_roundw
                    case rel =>
                      refine ⟨i + 1, by simp, by omega, congrArg Value.bool AN.out.symm, ?_⟩
                      have := HY.out.set (i + 1) true
                      rw [PST.out] at this; exact this
                    case measure => simp [intOf]; omega
                · have g95 : ((p[k].toNat : Int) == 95) = false := by rw [beq_eq_false_iff_ne]; intro e; exact hu (u8_eq.2 e)
                  by_cases he : p[k] = s[i]
                  · have geq : ((p[k].toNat : Int) == (s[i].toNat : Int)) = true := by rw [he]; exact beq_self_eq_true _
                    have PST := Lib.hid (partF_put (by rw [HPL.out]; exact hk) HPK.out hpct (by rw [HSL.out]; exact hiN) HSI.out HC.out (.inr he))
                    clear hu he
                    cases A
                    · go_wp2_with fail
                      refine wp_region_cls (wr) (by kernel_rfl) (by kernel_rfl) (Cls.start _) ?_
                      repeat
                        first
                          | go_big_quiet_skip
                          | (go_big_quiet_want; (first | go_big_quiet_op | go_simp); first | go_big_quiet_on | (apply Exists.intro; refine ⟨fun w' hw' => ?_, ?_⟩; (· (first | (with_reducible exact rfl) | (fail) | (obtain ⟨hc, hf⟩ := hw'.facts; go_simp; first | done | (with_reducible exact rfl) | (with_reducible exact ⟨rfl, rfl⟩)))); go_big_quiet_on))
                      refine wpQuiet_nil ?_
                      intro wq hq
                      have HY := Lib.hid (HX.out.below hq.bel)
                      have d1 := (hq.bel.cell (p := ⟨g2, i + 1, none⟩) gz).trans d0
                      have yf := HY.out.2.1.row.frozen
                      have yz := HY.out.2.1.row.lt
                      clear d0
                      go_wp2_with fail
                      go_roundw
                      case rel =>
                        refine ⟨i + 1, by simp, by omega, congrArg Value.bool AN.out.symm, ?_⟩
                        have := HY.out.set (i + 1) true
                        rw [PST.out] at this; exact this
                      case measure => simp [intOf]; omega
                    · go_wp2_with fail
                      refine wp_region_cls (wr) (by kernel_rfl) (by kernel_rfl) (Cls.start _) ?_
                      repeat
                        first
                          | go_big_quiet_skip
                          | (go_big_quiet_want; (first | go_big_quiet_op | go_simp); first | go_big_quiet_on | (apply Exists.intro; refine ⟨fun w' hw' => ?_, ?_⟩; (· (first | (with_reducible exact rfl) | (fail) | (obtain ⟨hc, hf⟩ := hw'.facts; go_simp; first | done | (with_reducible exact rfl) | (with_reducible exact ⟨rfl, rfl⟩)))); go_big_quiet_on))
                      refine wpQuiet_nil ?_
                      intro wq hq
                      have HY := Lib.hid (HX.out.below hq.bel)
                      have d1 := (hq.bel.cell (p := ⟨g2, i + 1, none⟩) gz).trans d0
                      have yf := HY.out.2.1.row.frozen
                      have yz := HY.out.2.1.row.lt
                      clear d0
                      go_wp2_with fail
                      go_roundw
                      case rel =>
                        refine ⟨i + 1, by simp, by omega, congrArg Value.bool AN.out.symm, ?_⟩
                        have := HY.out.set (i + 1) true
                        rw [PST.out] at this; exact this
                      case measure => simp [intOf]; omega
                  · have geq : ((p[k].toNat : Int) == (s[i].toNat : Int)) = false := by rw [beq_eq_false_iff_ne]; intro e; exact he (u8_eq.2 e)
                    have PSK : Hid (partF S P (k + 1) (i + 1) = partF S P (k + 1) (i + 1 + 1)) := (partF_skip2 (by rw [HPL.out]; exact hk) HPK.out hpct (by rw [HSL.out]; exact hiN) HSI.out hu he).symm
                    clear hu he
                    cases A
                    · go_wp2_with fail
                      refine wp_region_cls (wr) (by kernel_rfl) (by kernel_rfl) (Cls.start _) ?_
                      repeat
                        first
                          | go_big_quiet_skip
                          | (go_big_quiet_want; (first | go_big_quiet_op | go_simp); first | go_big_quiet_on | (apply Exists.intro; refine ⟨fun w' hw' => ?_, ?_⟩; (· (first | (with_reducible exact rfl) | (fail) | (obtain ⟨hc, hf⟩ := hw'.facts; go_simp; first | done | (with_reducible exact rfl) | (with_reducible exact ⟨rfl, rfl⟩)))); go_big_quiet_on))
                      refine wpQuiet_nil ?_
                      intro wq hq
                      go_wp2_with fail
                      go_roundw
                      case rel =>
                        refine ⟨i + 1, by simp, by omega, congrArg Value.bool AN.out.symm, ?_⟩
                        rw [← PSK.out]; exact HX.out.below hq.bel
                      case measure => simp [intOf]; omega
                    · go_wp2_with fail
                      refine wp_region_cls (wr) (by kernel_rfl) (by kernel_rfl) (Cls.start _) ?_
                      repeat
                        first
                          | go_big_quiet_skip
                          | (go_big_quiet_want; (first | go_big_quiet_op | go_simp); first | go_big_quiet_on | (apply Exists.intro; refine ⟨fun w' hw' => ?_, ?_⟩; (· (first | (with_reducible exact rfl) | (fail) | (obtain ⟨hc, hf⟩ := hw'.facts; go_simp; first | done | (with_reducible exact rfl) | (with_reducible exact ⟨rfl, rfl⟩)))); go_big_quiet_on))
                      refine wpQuiet_nil ?_
                      intro wq hq
                      go_wp2_with fail
                      go_roundw
                      case rel =>
                        refine ⟨i + 1, by simp, by omega, congrArg Value.bool AN.out.symm, ?_⟩
                        rw [← PSK.out]; exact HX.out.below hq.bel
                      case measure => simp [intOf]; omega
              · have iI : ¬ (i : Int) < (s.size : Int) := by omega
                have PSK : Hid (partF S P (k + 1) (i + 1) = partF S P (k + 1) (i + 1 + 1)) := (partF_skip (by rw [HPL.out]; exact hk) HPK.out hpct (.inr (by rw [HSL.out]; omega))).symm
                cases A
                · go_wp2_with fail
                  refine wp_region_cls (wr) (by kernel_rfl) (by kernel_rfl) (Cls.start _) ?_
                  repeat
                    first
                      | go_big_quiet_skip
                      | (go_big_quiet_want; (first | go_big_quiet_op | go_simp); first | go_big_quiet_on | (apply Exists.intro; refine ⟨fun w' hw' => ?_, ?_⟩; (· (first | (with_reducible exact rfl) | (fail) | (obtain ⟨hc, hf⟩ := hw'.facts; go_simp; first | done | (with_reducible exact rfl) | (with_reducible exact ⟨rfl, rfl⟩)))); go_big_quiet_on))
                  refine wpQuiet_nil ?_
                  intro wq hq
                  go_wp2_with fail
                  go_roundw
                  case rel =>
                    refine ⟨i + 1, by simp, by omega, congrArg Value.bool AN.out.symm, ?_⟩
                    rw [← PSK.out]; exact HX.out.below hq.bel
                  case measure => simp [intOf]; omega
                · go_wp2_with fail
                  refine wp_region_cls (wr) (by kernel_rfl) (by kernel_rfl) (Cls.start _) ?_
                  repeat
                    first
                      | go_big_quiet_skip
                      | (go_big_quiet_want; (first | go_big_quiet_op | go_simp); first | go_big_quiet_on | (apply Exists.intro; refine ⟨fun w' hw' => ?_, ?_⟩; (· (first | (with_reducible exact rfl) | (fail) | (obtain ⟨hc, hf⟩ := hw'.facts; go_simp; first | done | (with_reducible exact rfl) | (with_reducible exact ⟨rfl, rfl⟩)))); go_big_quiet_on))
                  refine wpQuiet_nil ?_
                  intro wq hq
                  go_wp2_with fail
                  go_roundw
                  case rel =>
                    refine ⟨i + 1, by simp, by omega, congrArg Value.bool AN.out.symm, ?_⟩
                    rw [← PSK.out]; exact HX.out.below hq.bel
                  case measure => simp [intOf]; omega
  
          · obtain rfl : i = M := by omega
            have iM : ¬ (i : Int) < (i : Int) := by omega
            have FIN := Lib.hid (HX.out.2.1)
            rw [partF_past (by rw [HSL.out]; have := HM.out; omega)] at FIN
            go_wp2_with fail
            go_roundw
            case rel => exact ⟨k + 1, g2, by simp, by omega, rfl, FIN.out⟩
            case measure => simp [intOf]; omega
    · obtain rfl : k = p.size := by omega
      have sM : (s.size : Int) < (M : Int) := by have := HM.out; omega
      have sM2 : s.size < M := by have := HM.out; omega
      have c0 := (HS.out.row.cell s.size).trans (bools_at (rowF_at (s := S) (p := P) (k := p.size) (i := s.size) (by rw [HSL.out]; exact Nat.le_refl _)))
      have gz := HS.out.row.lt
      rw [HCE.out] at c0
      go_wp2_with (go_at_call 33; refine (relstoreref_truth _ _).mono ?_; rintro e w1 ⟨rfl, hb⟩; have HT := Lib.hid (HS.out.below hb); obtain ⟨r0, r1, r2⟩ := HT.out.hr.cells3; have rz := HT.out.hr.lt; have rf := HT.out.hr.frozen)
      refine bodyPost_ret (v := .agg #[.int .i64 1, .int .i64 (flagN C), .string ⟨#[]⟩]) (by simp [results, Tryd.results26, go_sem, *]) rfl ⟨?_, ?_⟩
      · rfl
      · exact (((HT.out.bel).setCell (by simp; omega) _).setCell (by simp; omega) _).setCell (by simp; omega) _


/-- Like of any two values -/
noncomputable def likeV (k : Int) (s : ByteArray) (k' : Int) (s' : ByteArray) : Val := if k = 3 ∧ k' = 3 then ⟨1, flagN (cellF s.data.toList s'.data.toList s'.data.toList.length s.data.toList.length), ⟨#[]⟩⟩ else nullV
set_option maxHeartbeats 1600000 in
theorem value_Like (k n : Int) (s : ByteArray) (k' n' : Int) (s' : ByteArray) (w : World) (hs : s.size ≤ 2000000) (hs' : s'.size ≤ 2000000) :
    Calls Tryd.prog 25 #[.agg #[.int .i64 k, .int .i64 n, .string s], .agg #[.int .i64 k', .int .i64 n', .string s']] w fun e w' => e = .returned (.agg #[.int .i64 (likeV k s k' s').k, .int .i64 (likeV k s k' s').n, .string (likeV k s k' s').s]) ∧ Below w.heap.size w w' := by
  by_cases h1 : k = 3
  · subst h1
    by_cases h2 : k' = 3
    · subst h2
      have H := Lib.hid (fun w => value_like s s' (cellF s.data.toList s'.data.toList s'.data.toList.length s.data.toList.length) (cellF_end _ _) w (by omega) (by omega))
      have E : likeV 3 s 3 s' = ⟨1, flagN (cellF s.data.toList s'.data.toList s'.data.toList.length s.data.toList.length), ⟨#[]⟩⟩ := if_pos ⟨rfl, rfl⟩
      rw [E]
      obtain ⟨r, hr⟩ : ∃ r, cellF s.data.toList s'.data.toList s'.data.toList.length s.data.toList.length = r := ⟨_, rfl⟩
      rw [hr] at H
      rw [hr]
      clear hr E hs hs'
      go_enter Tryd.func25, Tryd.ntmps25
      go_wp2_with (first | (go_at_call 54; refine (H.out _).mono ?_; rintro e w1 ⟨rfl, hb⟩; obtain ⟨hc, hf⟩ := bcell hb; have hz := hb.size; (try simp at hz); have hz0 : w.heap.size < w1.heap.size := (by omega); have hz1 : w.heap.size + 1 < w1.heap.size := (by omega); have hz2 : w.heap.size + 2 < w1.heap.size := (by omega)) | (go_at_call 48; refine (value_Flag _ _).mono ?_; rintro e w1 ⟨rfl, hb⟩; obtain ⟨hc, hf⟩ := bcell hb; have hz := hb.size; (try simp at hz); have hz0 : w.heap.size < w1.heap.size := (by omega); have hz1 : w.heap.size + 1 < w1.heap.size := (by omega); have hz2 : w.heap.size + 2 < w1.heap.size := (by omega)))
      refine bodyPost_ret (v := .agg #[.int .i64 1, .int .i64 (flagN r), .string ⟨#[]⟩]) (by simp [results, Tryd.results25, go_sem, *]) rfl ⟨?_, ?_⟩
      · rfl
      · (repeat (first | (with_reducible exact Below.refl _ _) | (with_reducible assumption) | (with_reducible refine Below.setCell ?_ (by first | omega | (simp <;> omega)) _) | (with_reducible refine Below.drew ?_) | (with_reducible refine Below.alloc ?_ (by first | omega | (simp <;> omega)) _) | (with_reducible refine bel_step ?_ (by assumption) (by first | omega | (simp <;> omega)))))
    · have e : likeV 3 s k' s' = nullV := if_neg fun h => h2 h.2
      have e2 : (k' == 3) = false := beq_eq_false_iff_ne.2 h2
      have e3 : (k' != 3) = true := bne_iff_ne.2 h2
      rw [e]
      clear e hs hs' h2
      go_enter Tryd.func25, Tryd.ntmps25
      go_wp2_with (go_at_call 47; refine (value_None _).mono ?_; rintro e w1 ⟨rfl, hb⟩; obtain ⟨hc, hf⟩ := bcell hb; have hz := hb.size; (try simp at hz); have hz0 : w.heap.size < w1.heap.size := (by omega); have hz1 : w.heap.size + 1 < w1.heap.size := (by omega); have hz2 : w.heap.size + 2 < w1.heap.size := (by omega))
      refine bodyPost_ret (v := .agg #[.int .i64 0, .int .i64 0, .string ⟨#[]⟩]) (by simp [results, Tryd.results25, go_sem, *]) rfl ⟨?_, ?_⟩
      · rfl
      · (repeat (first | (with_reducible exact Below.refl _ _) | (with_reducible assumption) | (with_reducible refine Below.setCell ?_ (by first | omega | (simp <;> omega)) _) | (with_reducible refine Below.drew ?_) | (with_reducible refine Below.alloc ?_ (by first | omega | (simp <;> omega)) _) | (with_reducible refine bel_step ?_ (by assumption) (by first | omega | (simp <;> omega)))))
  · have e : likeV k s k' s' = nullV := if_neg fun h => h1 h.1
    have e2 : (k == 3) = false := beq_eq_false_iff_ne.2 h1
    have e3 : (k != 3) = true := bne_iff_ne.2 h1
    rw [e]
    clear e hs hs' h1
    go_enter Tryd.func25, Tryd.ntmps25
    go_wp2_with (go_at_call 47; refine (value_None _).mono ?_; rintro e w1 ⟨rfl, hb⟩; obtain ⟨hc, hf⟩ := bcell hb; have hz := hb.size; (try simp at hz); have hz0 : w.heap.size < w1.heap.size := (by omega); have hz1 : w.heap.size + 1 < w1.heap.size := (by omega); have hz2 : w.heap.size + 2 < w1.heap.size := (by omega))
    refine bodyPost_ret (v := .agg #[.int .i64 0, .int .i64 0, .string ⟨#[]⟩]) (by simp [results, Tryd.results25, go_sem, *]) rfl ⟨?_, ?_⟩
    · rfl
    · (repeat (first | (with_reducible exact Below.refl _ _) | (with_reducible assumption) | (with_reducible refine Below.setCell ?_ (by first | omega | (simp <;> omega)) _) | (with_reducible refine Below.drew ?_) | (with_reducible refine Below.alloc ?_ (by first | omega | (simp <;> omega)) _) | (with_reducible refine bel_step ?_ (by assumption) (by first | omega | (simp <;> omega)))))

set_option maxHeartbeats 1600000 in
theorem ref_Like (k n : Int) (s : ByteArray) (k' n' : Int) (s' : ByteArray) (w : World) (hs : s.size ≤ 2000000) (hs' : s'.size ≤ 2000000) :
    Calls Tryd.prog 26 #[.agg #[.int .i64 k, .int .i64 n, .string s], .agg #[.int .i64 k', .int .i64 n', .string s']] w fun e w' => e = .returned (.agg #[.int .i64 (likeV k s k' s').k, .int .i64 (likeV k s k' s').n, .string (likeV k s k' s').s]) ∧ Below w.heap.size w w' := by
  by_cases h1 : k = 3
  · subst h1
    by_cases h2 : k' = 3
    · subst h2
      have q := ref_Like_text n n' s s' (s.size + 1) rfl hs hs' w _ _ rfl rfl
      have E : likeV 3 s 3 s' = ⟨1, flagN (cellF s.data.toList s'.data.toList s'.data.toList.length s.data.toList.length), ⟨#[]⟩⟩ := if_pos ⟨rfl, rfl⟩
      rw [E]
      exact q
    · have e : likeV 3 s k' s' = nullV := if_neg fun h => h2 h.2
      have e2 : (k' == 3) = false := beq_eq_false_iff_ne.2 h2
      have e3 : (k' != 3) = true := bne_iff_ne.2 h2
      rw [e]
      clear e hs hs' h2
      go_enter Tryd.func26, Tryd.ntmps26
      go_wp2_with (go_at_call 32; refine (relstoreref_null _).mono ?_; rintro e w1 ⟨rfl, hb⟩; obtain ⟨hc, hf⟩ := bcell hb; have hz := hb.size; (try simp at hz); have hz0 : w.heap.size < w1.heap.size := (by omega); have hz1 : w.heap.size + 1 < w1.heap.size := (by omega); have hz2 : w.heap.size + 2 < w1.heap.size := (by omega))
      refine bodyPost_ret (v := .agg #[.int .i64 0, .int .i64 0, .string ⟨#[]⟩]) (by simp [results, Tryd.results26, go_sem, *]) rfl ⟨?_, ?_⟩
      · rfl
      · (repeat (first | (with_reducible exact Below.refl _ _) | (with_reducible assumption) | (with_reducible refine Below.setCell ?_ (by first | omega | (simp <;> omega)) _) | (with_reducible refine Below.drew ?_) | (with_reducible refine Below.alloc ?_ (by first | omega | (simp <;> omega)) _) | (with_reducible refine bel_step ?_ (by assumption) (by first | omega | (simp <;> omega)))))
  · have e : likeV k s k' s' = nullV := if_neg fun h => h1 h.1
    have e2 : (k == 3) = false := beq_eq_false_iff_ne.2 h1
    have e3 : (k != 3) = true := bne_iff_ne.2 h1
    rw [e]
    clear e hs hs' h1
    go_enter Tryd.func26, Tryd.ntmps26
    go_wp2_with (go_at_call 32; refine (relstoreref_null _).mono ?_; rintro e w1 ⟨rfl, hb⟩; obtain ⟨hc, hf⟩ := bcell hb; have hz := hb.size; (try simp at hz); have hz0 : w.heap.size < w1.heap.size := (by omega); have hz1 : w.heap.size + 1 < w1.heap.size := (by omega); have hz2 : w.heap.size + 2 < w1.heap.size := (by omega))
    refine bodyPost_ret (v := .agg #[.int .i64 0, .int .i64 0, .string ⟨#[]⟩]) (by simp [results, Tryd.results26, go_sem, *]) rfl ⟨?_, ?_⟩
    · rfl
    · (repeat (first | (with_reducible exact Below.refl _ _) | (with_reducible assumption) | (with_reducible refine Below.setCell ?_ (by first | omega | (simp <;> omega)) _) | (with_reducible refine Below.drew ?_) | (with_reducible refine Below.alloc ?_ (by first | omega | (simp <;> omega)) _) | (with_reducible refine bel_step ?_ (by assumption) (by first | omega | (simp <;> omega)))))

end Go.Proofs.YtlkkpgdgnnknpaaDoor
