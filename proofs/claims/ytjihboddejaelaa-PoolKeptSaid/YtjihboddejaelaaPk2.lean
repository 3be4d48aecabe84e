/-
  Maps from int to int; point.copied of package wal.
-/
import Derived.Test.YtjihboddejaelaaPk1
import Derived.Maps.RangeWalk
import Derived.Maps.OwnSet
import Derived.Maps.OwnOps
import Derived.Maps.Ext
import Derived.Lib.BufferWrite
import Derived.Lib.SlBuf
import Derived.IntWalk
import Derived.WalkLawsBesides
import Derived.Deep.RegionLaw
import Derived.Deep.AppendLies
import Derived.Deep.DeepCutAuto
import Derived.Deep.RegionHeld3
namespace Go.Proofs.Ytjihboddejaelaa
set_option linter.unusedVariables false
set_option linter.unusedSimpArgs false
open Go.RowKit
open Go.BigFrame
open Go.Maps
set_option linter.unusedVariables false
set_option linter.unusedSimpArgs false

theorem lawInt : Keyed Try.prog 3 := int_keyed Try.underlying3
theorem zeroInt (w : World) : (zeroValue 3).run Try.prog w = .ok (.int .i64 0) w := by kernel_rfl
/-- block b is a map of at most n entries; f: what it holds -/
def MP (w : World) (b n : Nat) (f : Int → Nat) : Prop := ∃ D : DataW Unit, w.ownsMap Try.prog 3 (plainElem Try.prog 3) b n D ∧ ∀ x : Int, D.atKey (.int .i64 x) (.lit (.int .i64 0)) = .lit (.int .i64 (f x))
theorem MP.kept {w w' : World} {b n : Nat} {f : Int → Nat} {row : Option Nat} (h : MP w b n f) (hg : w.grownBy w' row) (hn : some b ≠ row) : MP w' b n f := by
  obtain ⟨D, h1, h2⟩ := h
  exact ⟨D, h1.kept hg hn, h2⟩
theorem MP.lt {w : World} {b n : Nat} {f : Int → Nat} (h : MP w b n f) : b < w.heap.size := by
  obtain ⟨D, h1, h2⟩ := h
  exact h1.lt
theorem MP.block {w w' : World} {b n : Nat} {f : Int → Nat} (h : MP w b n f) (hb : w'.heap[b]? = w.heap[b]?) : MP w' b n f := by
  obtain ⟨D, ⟨es, cl, h1, h2⟩, h3⟩ := h
  exact ⟨D, ⟨es, cl, hb.trans h1, h2⟩, h3⟩
theorem MP.below {w w' : World} {b n : Nat} {f : Int → Nat} (h : MP w b n f) (hb : Below w.heap.size w w') : MP w' b n f := h.block (hb.block b h.lt)
theorem MP.made (w : World) : MP (w.alloc (.map #[] 0)) w.heap.size 0 (fun _ => 0) := ⟨_, World.ownsMap_made _ _ _ _, fun x => rfl⟩
theorem make_hint (n : Nat) (w : World) : (Instr.makeMap 102 (some (.int .i64 n))).run Try.prog w = .ok (.map (some w.heap.size)) (w.alloc (.map #[] 0)) := by
  simp [Instr.makeMap, asInt, asIntOf]

def CopyPost (w : World) (a p n : Nat) (f : Int → Nat) (e : Ending) (w' : World) : Prop :=
  ∃ b', e = .returned (.agg #[.int .i64 a, .int .i64 p, .map (some b')]) ∧ MP w' b' n f ∧ w.heap.size ≤ b' ∧ Below w.heap.size w w'

set_option maxRecDepth 100000 in
set_option maxHeartbeats 1600000 in
theorem wal_copied (b a p n : Nat) (f : Int → Nat) (w : World) (hn : n ≤ 1000000) (h : MP w b n f) :
    Calls Try.prog 66 #[.agg #[.int .i64 a, .int .i64 p, .map (some b)]] w (CopyPost w a p n f) := by
  obtain ⟨D0, hown, hD⟩ := h
  have hmm := make_hint
  have hbl := hown.lt
  have hsz := hown.size_le
  have HD := Lib.hid hD
  have HA := Lib.hid (Has.new w 104 #[.int .i64 a, .int .i64 p, .map (some b)])
  clear hD
  go_enter Try.func66, Try.ntmps66
  go_wp2_with (first
    | (at_len; refine wpList_len_own _ rfl _ 102 rfl 3 3 Try.underlying102 _ b n D0 rfl ((hown.alloc _).alloc _) ?_)
    | (at_range; refine wpList_range_own _ rfl _ 102 rfl 3 3 lawInt Try.underlying102 _ b n _ rfl (((hown.alloc _).alloc _).alloc _) ?_; intro w0 hrg0 hg0 hs0)
    | go_in)
  go_frame
  have e1 : (((w.alloc (.cells #[.int .i64 a, .int .i64 p, .map (some b)] 104)).alloc (.cells #[.int .i64 0, .int .i64 0, .map none] 104)).alloc (.map #[] 0)).heap.size = w.heap.size + 1 + 1 + 1 := by simp
  have HB := Lib.hid (Has.new (w.alloc (.cells #[.int .i64 a, .int .i64 p, .map (some b)] 104)) 104 #[.int .i64 0, .int .i64 0, .map none])
  rw [World.size_alloc] at HB
  rw [e1] at hrg0 hs0 ⊢
  have HM0 := Lib.hid (World.ownsMap_made (H := Unit) ((w.alloc (.cells #[.int .i64 a, .int .i64 p, .map (some b)] 104)).alloc (.cells #[.int .i64 0, .int .i64 0, .map none] 104)) Try.prog 3 (plainElem Try.prog 3))
  rw [World.size_alloc, World.size_alloc] at HM0
  go_loopw [4] (fun _ wr => ∃ (left : Lit → Bool) (cnt : Nat) (Dout : DataW Unit), wr.ranges Try.prog 3 (plainElem Try.prog 3) b (w.heap.size + 1 + 1 + 1) n D0 left cnt ∧ cnt ≤ Maps.size D0 ∧
      wr.ownsMap Try.prog 3 (plainElem Try.prog 3) (w.heap.size + 1 + 1) (Maps.size D0 - cnt) Dout ∧ Agree Dout D0 left ∧ Below w.heap.size w wr ∧
      Has wr w.heap.size 104 #[.int .i64 a, .int .i64 p, .map (some b)] ∧ Has wr (w.heap.size + 1) 104 #[.int .i64 0, .int .i64 0, .map none])
    (fun _ wr => wr.rangeLeft b (w.heap.size + 1 + 1 + 1))
  case atStart =>
    exact ⟨_, _, .map [], hrg0, Nat.le_refl _, (HM0.out.kept hg0 (by simp)).mono (Nat.zero_le _), agree_start D0, ((((Below.refl _ _).alloc (Nat.le_refl _) _).alloc (by simp) _).alloc (by simp; omega) _).grown hg0 (by simp; omega) (fun j hj => by cases hj),
      ((HA.out.alloc _).alloc _).grown hg0 (by simp), (HB.out.alloc _).grown hg0 (by simp)⟩
  case round =>
    obtain ⟨left, cnt, Dout, hrg, hcs, hout, hA, hnx, hp, hr⟩ := hrel
    have HP := Lib.hid hp
    have HR := Lib.hid hr
    obtain ⟨c0, c1, c2, d0, d1, d2⟩ := (show wr.cell? ⟨w.heap.size, 0, none⟩ = some (.int .i64 a) ∧ wr.cell? ⟨w.heap.size, 1, none⟩ = some (.int .i64 p) ∧ wr.cell? ⟨w.heap.size, 2, none⟩ = some (.map (some b)) ∧ wr.cell? ⟨w.heap.size + 1, 0, none⟩ = some (.int .i64 0) ∧ wr.cell? ⟨w.heap.size + 1, 1, none⟩ = some (.int .i64 0) ∧ wr.cell? ⟨w.heap.size + 1, 2, none⟩ = some (.map none) from ⟨hp.cell 0, hp.cell 1, hp.cell 2, hr.cell 0, hr.cell 1, hr.cell 2⟩)
    have cf := hp.frozen
    have cf2 := hr.frozen
    clear hp hr HA HB HM0 hrg0 hg0 hs0 e1
    go_wp2_with (first
      | (at_next; refine wpList_next_ranges_ii _ rfl _ rfl 3 3 .i64 .i64 lawInt Try.underlying3 Try.underlying3 b (w.heap.size + 1 + 1 + 1) n _ _ _ rfl hrg ?_ ?_)
      | go_in)
    · intro hc0 hl0
      go_wp2
      subst hc0
      have e := agree_end hA hl0 (hout.canon lawInt) (hown.canon lawInt)
      subst e
      have h2 := (HR.out.far (p := ⟨w.heap.size, 2, none⟩) (by simp) (.map (some (w.heap.size + 1 + 1)))).set3 (x := .int .i64 a) (y := .int .i64 p) (z := .map (some (w.heap.size + 1 + 1)))
      have h3 := (((hout.setCell (a := ⟨w.heap.size, 2, none⟩) (by simp; omega) (.map (some (w.heap.size + 1 + 1)))).setCell (a := ⟨w.heap.size + 1, 0, none⟩) (by simp) (.int .i64 a)).setCell (a := ⟨w.heap.size + 1, 1, none⟩) (by simp) (.int .i64 p)).setCell (a := ⟨w.heap.size + 1, 2, none⟩) (by simp) (.map (some (w.heap.size + 1 + 1)))
      have h4 := (((hnx.setCell (p := ⟨w.heap.size, 2, none⟩) (Nat.le_refl _) (.map (some (w.heap.size + 1 + 1)))).setCell (p := ⟨w.heap.size + 1, 0, none⟩) (by simp) (.int .i64 a)).setCell (p := ⟨w.heap.size + 1, 1, none⟩) (by simp) (.int .i64 p)).setCell (p := ⟨w.heap.size + 1, 2, none⟩) (by simp) (.map (some (w.heap.size + 1 + 1)))
      refine bodyPost_ret (results_cell_row rfl _ _ (w.heap.size + 1) 104 _ (0, 0) _ rfl h2 Try.underlying104 rfl (by kernel_rfl)) rfl ?_
      exact ⟨_, rfl, ⟨_, h3.mono (by omega), HD.out⟩, by omega, h4⟩
    · intro x c w1 cnt1 hwx hwc hlx hat hrg1 hlt hg1 hs1 hen
      have hout1 := hout.kept hg1 (by simp)
      go_wp2_with (first
        | (at_mapUpdate; refine wpList_mapUpdate_own _ rfl _ _ _ 102 rfl 3 3 lawInt Try.underlying102 _ (w.heap.size + 1 + 1) _ _ rfl hout1 (by unfold maxLen; omega) _ _ _ rfl rfl (keyOf_int_mk Try.underlying3 hwx) _ [] (plainElem_int Try.underlying3 hwc) ?_; intro w2 hout2 hg2; go_frame)
        | go_in)
      have hrg2 := hrg1.kept hg2 (fun e => by have := Option.some.inj e; omega) (fun e => by have := Option.some.inj e; omega)
      go_roundw
      case rel =>
        exact ⟨_, cnt1, _, hrg2, by omega, hout2.mono (by omega), agree_step hA hout.isMap trivial hat,
          (hnx.grown hg1 hnx.size (fun j hj => by cases hj; omega)).grown hg2 (by have := hnx.size; omega) (fun j hj => by cases hj; omega),
          (HP.out.grown hg1 (by simp <;> omega)).grown hg2 (by simp <;> omega), (HR.out.grown hg1 (by simp <;> omega)).grown hg2 (by simp <;> omega)⟩
      case measure => rw [hrg2.left_eq, hrg.left_eq]; exact hlt

end Go.Proofs.Ytjihboddejaelaa

/-
  put, done of package disk: rows of bytes of the disk's own.
-/
namespace Go.Proofs.Ytjihboddejaelaa
set_option linter.unusedVariables false
set_option linter.unusedSimpArgs false
open Go.RowKit
open Go.BigFrame
set_option linter.unusedVariables false
set_option linter.unusedSimpArgs false

/-- a row that was v is v' now: written in its place, or in a block that is new -/
structure Rst (w : World) (v : Value) (w' : World) (v' : Value) : Prop where
  grown : w.grownBy w' v.ownBlock
  at_ : v'.ownBlock = v.ownBlock ∨ ∀ k, v'.ownBlock = some k → w.heap.size ≤ k
theorem Rst.refl (w : World) (v : Value) : Rst w v w v := ⟨grownBy_refl _ _, .inl rfl⟩
theorem Rst.trans {w w1 w2 : World} {v v1 v2 : Value} (h : Rst w v w1 v1) (k : Rst w1 v1 w2 v2) : Rst w v w2 v2 := by
  refine ⟨⟨k.grown.os.trans h.grown.os, k.grown.tape.trans h.grown.tape, k.grown.output.trans h.grown.output, Nat.le_trans h.grown.size k.grown.size, fun i hi hn => ?_⟩, ?_⟩
  · refine (k.grown.block i (Nat.lt_of_lt_of_le hi h.grown.size) (fun e => ?_)).trans (h.grown.block i hi hn)
    rcases h.at_ with e2 | e2
    · exact hn (e.trans e2)
    · have := e2 i e.symm; omega
  · rcases k.at_ with e | e
    · rcases h.at_ with e2 | e2
      · exact .inl (e.trans e2)
      · exact .inr (fun i hi => e2 i (e ▸ hi))
    · exact .inr (fun i hi => Nat.le_trans h.grown.size (e i hi))
theorem Rst.below {w w1 w2 : World} {v v1 : Value} (h : Rst w v w1 v1) (hb : Below w1.heap.size w1 w2) : Rst w v w2 v1 :=
  h.trans ⟨below_grownBy hb, .inl rfl⟩
theorem Rst.alloc {w w1 : World} {v v1 : Value} (h : Rst w v w1 v1) (o : Obj) : Rst w v (w1.alloc o) v1 := h.below ((Below.refl _ _).alloc (Nat.le_refl _) _)
theorem Rst.app {w w1 w2 : World} {v v1 v2 : Value} (h : Rst w v w1 v1) (hg : w1.grownBy w2 v1.ownBlock) (hat : v2.ownBlock = v1.ownBlock ∨ v2.ownBlock = some w1.heap.size) : Rst w v w2 v2 :=
  h.trans ⟨hg, hat.imp id fun e k hk => by rw [e] at hk; cases hk; exact Nat.le_refl _⟩
/-- the block of a row in its place in a world that begins earlier -/
theorem Rst.start {w w0 : World} {v : Value} (hb : Below w0.heap.size w0 w) {w' : World} {v' : Value} (h : Rst w v w' v') : Rst w0 v w' v' := (Rst.refl w0 v).below hb |>.trans h

/-- a row's new value, what it reads as, and what has turned -/
def RowPost (w : World) (e : TypeId) (size : Nat) (v : Value) (n : Nat) (xs : List Value) (e' : Ending) (w' : World) : Prop :=
  ∃ v', e' = .returned v' ∧ w'.ownsRow 0 e size v' n xs ∧ Rst w v w' v'
theorem u8s_zero (l : List UInt8) : u8s l ++ [Value.int .u8 0] = u8s (l ++ [0]) := by rw [u8s_append]; rfl
/-- copy(b[off:], x) of a text onto a row of the object's own -/
theorem run_copy_own {P : Program} {w : World} (dT sT ty elem : TypeId) (hu : P.underlying dT = some (.slice elem)) (hsz : (P.info? elem).map (·.size) = some 1)
    {e : TypeId} {A : Option Addr} {n c : Nat} {l : List UInt8} (hown : w.ownsRow 0 e 1 (.slice A n c) n (u8s l)) (dp : Option Addr) (dLen dCap off : Nat) (x : ByteArray)
    (hdp : 0 < x.size → dp = A.map (·.add (off * 1))) (hle : x.size ≤ dLen) (hfit : off + x.size ≤ n) :
    ∃ w', (Builtin.copy_ #[dT, sT] ty #[.slice dp dLen dCap, .string x]).run P w = .ok (goInt x.size) w' ∧ w'.ownsRow 0 e 1 (.slice A n c) n (u8s (l.take off ++ x.data.toList ++ l.drop (off + x.size))) ∧ w.grownBy w' (Value.ownBlock (.slice A n c)) := by
  have hll : l.length = n := by have := hown.1; rw [u8s_len] at this; omega
  rcases Nat.eq_zero_or_pos x.size with h0 | h0
  · have hr := Lib.run_copy_empty_string (P := P) w dT sT ty elem dp dLen dCap x hu (by rw [hsz]; rfl) h0
    have hx : x.data.toList = [] := List.eq_nil_of_length_eq_zero (by simpa using h0)
    refine ⟨w, by rw [h0]; exact hr, ?_, grownBy_refl _ _⟩
    rw [hx, h0, List.append_nil, Nat.add_zero, List.take_append_drop]; exact hown
  · rcases hown.2 with ⟨h1, h2⟩ | ⟨g, cap, cur, hv, hbg, hg, hnc, hcm, hcs, htk⟩
    · omega
    · cases hv
      have hdp2 := hdp h0
      have ha : (⟨g, 0, none⟩ : Addr).add (off * 1) = ⟨g, off, none⟩ := by rw [addr_add]; simp
      simp only [Option.map_some, ha] at hdp2
      subst hdp2
      have hsz2 : cur.size = c := by rw [hcs]; omega
      have hr := Lib.run_copy_row_string (P := P) w dT sT ty elem g off dLen dCap x cur e hu hsz hg hle (by omega)
      refine ⟨_, hr, ⟨?_, .inr ⟨g, c, _, rfl, hbg, setRow_heap w g cur _ e (0, 0) hg, hnc, hcm, ?_, ?_⟩⟩, ⟨rfl, rfl, rfl, by simp [World.setRow], fun k _ hk => setRow_other w g k _ (fun e => hk (by rw [e]; rfl))⟩⟩
      · rw [u8s_len]; simp; omega
      · rw [List.size_toArray]
        simp only [List.length_append, List.length_take, List.length_drop, Array.length_toList, show (Lib.byteCells x.data.toList) = u8s x.data.toList from rfl, u8s_len, show x.data.size = x.size from rfl]
        omega
      · have htk' : cur.toList.take n = u8s l := by simpa using htk
        have e1 : cur.toList.take off = u8s (l.take off) := by
          have : (cur.toList.take n).take off = cur.toList.take off := by rw [List.take_take, Nat.min_eq_left (by omega)]
          rw [← this, htk']; simp [u8s, List.map_take]
        have e2 : (cur.toList.drop (off + x.size)).take (n - (off + x.size)) = u8s (l.drop (off + x.size)) := by
          rw [← List.drop_take, htk']; simp [u8s, List.map_drop]
        have hx : x.data.toList.length = x.size := by simp
        rw [Nat.mul_one]
        show (cur.toList.take off ++ u8s x.data.toList ++ cur.toList.drop (off + x.size)).take n = _
        rw [u8s_append, u8s_append, e1, ← e2, List.take_append, List.take_of_length_le (by rw [List.length_append, u8s_len, u8s_len, List.length_take, hx]; omega)]
        congr 2
        rw [List.length_append, u8s_len, u8s_len, List.length_take, hx]
        omega
theorem wpList_copy_own_str {P : Program} {w : World} {ops : Array Oper} {rest : List Oper} {o : Oper} {a : Act} {Q : Exit → Act → World → Prop} (hgd : o.guard = none) (d s : Operand) (dT sT : TypeId)
    (ho : o.op = .call { callee := .builtin .copy, args := #[d, s], argTypes := #[dT, sT] }) (elem : TypeId) (hu : P.underlying dT = some (.slice elem)) (hsz : (P.info? elem).map (·.size) = some 1)
    {e : TypeId} {A : Option Addr} {n c : Nat} {l : List UInt8} (hown : w.ownsRow 0 e 1 (.slice A n c) n (u8s l)) (dp : Option Addr) (dLen dCap off : Nat) (x : ByteArray)
    (hd : a.eval d = .slice dp dLen dCap) (hs : a.eval s = .string x)
    (hdp : 0 < x.size → dp = A.map (·.add (off * 1))) (hle : x.size ≤ dLen) (hfit : off + x.size ≤ n)
    (h : ∀ w', w'.ownsRow 0 e 1 (.slice A n c) n (u8s (l.take off ++ x.data.toList ++ l.drop (off + x.size))) → w.grownBy w' (Value.ownBlock (.slice A n c)) → wpList P ops Q rest (a.put o.dst (goInt x.size)) w') : wpList P ops Q (o :: rest) a w := by
  refine wpList_plain hgd fun K hK => ?_
  obtain ⟨w', hr, h1, h2⟩ := run_copy_own (P := P) dT sT o.type elem hu hsz hown dp dLen dCap off x hdp hle hfit
  unfold Oper.wp
  simp [execOp, ho, resolve, invoke, builtin, hd, hs, hr, Result.andThen]
  exact hK _ _ (h w' h1 h2)
theorem slice_from (A : Option Addr) (m c a : Nat) (h : a ≤ m) : ∃ dp k, (∀ w : World, (Instr.sliceAt 81 (.slice A m c) (some (.int .i64 a)) none none).run Try.prog w = .ok (.slice dp (m - a) k) w) ∧ (a < c → dp = A.map (·.add (a * 1))) := by
  have h1 : (0 : Int) ≤ (a : Int) := by omega
  have h2 : (a : Int) ≤ (m : Int) := by omega
  refine ⟨if c = a then A else A.map (·.add (a * 1)), c - a, fun w => ?_, fun h => if_neg (by omega)⟩
  go_simp
def lenV : Value → Nat
  | .slice _ n _ => n
  | _ => 0

set_option maxRecDepth 100000 in
set_option maxHeartbeats 1600000 in
theorem disk_put (v : Value) (l : List UInt8) (a : Nat) (t : ByteArray) (w : World) (hown : w.ownsRow 0 5 1 v l.length (u8s l)) (hl : l.length ≤ 67108864) (ha : a + t.size ≤ 67108864) :
    Calls Try.prog 110 #[v, .int .i64 a, .string t] w (RowPost w 5 1 v (putL l a t.data.toList).length (u8s (putL l a t.data.toList))) := by
  obtain ⟨i0, hi, hz0, hz1, hz2⟩ := info_parts infoByte
  have HO := Lib.hid hown
  clear hown
  obtain ⟨N, hN⟩ : ∃ N, a + t.size = N := ⟨_, rfl⟩
  have hN1 : N ≤ 67108864 := by omega
  have hN2 : (a : Int) + (t.size : Int) = (N : Int) := by omega
  have HN := Lib.hid hN
  clear hN ha
  go_enter Try.func110, Try.ntmps110
  go_wp2_with fail
  go_loopw [0] (fun v0 wr => ∃ m : Nat, l.length ≤ m ∧ m ≤ max l.length N ∧ wr.ownsRow 0 5 1 v0 m (u8s (zerosTo l m)) ∧ Rst w v wr v0) (fun v0 _ => N - lenV v0)
  case atStart => exact ⟨l.length, Nat.le_refl _, by omega, by rw [zerosTo_big (Nat.le_refl _)]; exact HO.out, Rst.refl _ _⟩
  case round =>
    obtain ⟨m, hm1, hm2, ho, hr⟩ := hrel
    have hm3 : m ≤ 67108864 := by omega
    obtain ⟨A, c, rfl, hmc, _⟩ := BS.of_own ho
    have HO1 := Lib.hid ho
    have HR := Lib.hid hr
    clear HO ho hr
    by_cases hmN : m < N
    · have G1 := Lib.hid (show m + 1 ≤ maxLen by unfold maxLen; omega)
      have G2 := Lib.hid (show (m + 1) * 1 ≤ 140737488355328 by omega)
      have HZ := Lib.hid (zerosTo_step hm1 hmN)
      go_wp2_with ((at_builtin; refine wpList_append_src _ rfl (.tmp 14) (.tmp 15) 81 81 rfl (0) 5 i0 _ 1 1 Try.underlying81 hi hz0 hz1 hz2 zeroByte1 (by decide) (_) (m) (_) rfl (HO1.out.alloc _) (.slice (some ⟨_, 0, none⟩) 1 1) (1) ([Value.int .u8 0]) rfl (Src.ofSlice _ Try.underlying81 ⟨_, 0, none⟩ 1 1 ([Value.int .u8 0]) rfl (World.news_of_block (heap_alloc_new _ _)) (by simp [Value.oneCell'])) (G1.out) (G2.out) (Nat.zero_le _) ?_; intro v1 w1 hown1 hg1 _ hat1); have HO2 := Lib.hid hown1; have HR2 := Lib.hid ((HR.out.alloc _).app hg1 hat1); clear hown1 hg1 hat1)
      rw [u8s_zero, HZ.out] at HO2
      obtain ⟨A2, c2, hv2, _, _⟩ := BS.of_own HO2.out
      have HV2 := Lib.hid hv2
      clear hv2
      go_roundw
      case rel => exact ⟨m + 1, by omega, by omega, HO2.out, HR2.out⟩
      case measure => rw [HV2.out]; simp [lenV]; omega
    · have ham : a ≤ m := by have := HN.out; omega
      obtain ⟨dp, k, hsl, hdp⟩ := slice_from A m c a ham
      have HDP := Lib.hid hdp
      have HMX := Lib.hid (show m = max l.length N by omega)
      clear hdp
      go_wp2_with (with_reducible refine wpList_copy_own_str rfl (.tmp 19) (.tmp 20) 81 9 rfl 5 Try.underlying81 (by kernel_rfl) HO1.out dp (m - a) k a t rfl rfl (fun h0 => HDP.out (by have := HN.out; omega)) (by have := HN.out; omega) (by have := HN.out; omega) ?_; intro w1 hown1 hg1; have HO2 := Lib.hid hown1; have HG2 := Lib.hid hg1; clear hown1 hg1)
      have hx : t.data.toList.length = t.size := by simp
      have hm : m = (putL l a t.data.toList).length := by rw [putL_len, hx, HMX.out, ← HN.out]
      have hz : zerosTo l m = zerosTo l (a + t.data.toList.length) := by
        unfold zerosTo; rw [hx, HN.out, show m - l.length = N - l.length by have := HMX.out; omega]
      go_ret
      refine ⟨_, rfl, ?_, HR.out.trans ⟨HG2.out, .inl rfl⟩⟩
      have := HO2.out
      rw [hz, ← hx] at this
      rw [← hm]
      exact this

theorem ne_app {v v1 : Value} {n g : Nat} (h : ∀ k, v.ownBlock = some k → k ≠ g) (hat : v1.ownBlock = v.ownBlock ∨ v1.ownBlock = some n) (hn : g < n) : ∀ k, v1.ownBlock = some k → k ≠ g := fun k hk => by
  rcases hat with e | e
  · exact h k (e ▸ hk)
  · rw [e] at hk; cases hk; omega
def chVal (c : Ch) : Value := .agg #[.int .i64 c.file, .int .i64 c.at_, .string c.text, .bool c.cut]
def Ch.cells (c : Ch) : List Value := [.int .i64 c.file, .int .i64 c.at_, .string c.text, .bool c.cut]
theorem RowPost.start {w w0 : World} {e : TypeId} {size : Nat} {v : Value} {n : Nat} {xs : List Value} {e' : Ending} {w' : World} (h : RowPost w e size v n xs e' w') (hb : Below w0.heap.size w0 w) : RowPost w0 e size v n xs e' w' := by
  obtain ⟨v', h1, h2, h3⟩ := h
  exact ⟨v', h1, h2, h3.start hb⟩
theorem own_len {w : World} {b : Nat} {e : TypeId} {A : Option Addr} {n c k : Nat} {l : List UInt8} (h : w.ownsRow b e 1 (.slice A n c) n (u8s l)) (hk : k ≤ n) : w.ownsRow b e 1 (.slice A k c) k (u8s (l.take k)) := by
  have hl : l.length = n := by have := h.1; rw [u8s_len] at this; omega
  refine ⟨by rw [u8s_len, List.length_take]; omega, ?_⟩
  rcases h.2 with ⟨h1, h2⟩ | ⟨g, cap, cur, hv, hbg, hg, hnc, hcm, hcs, htk⟩
  · cases h1; have : k = 0 := by omega
    subst this; exact .inl ⟨rfl, rfl⟩
  · cases hv
    refine .inr ⟨g, c, cur, rfl, hbg, hg, by omega, hcm, hcs, ?_⟩
    have e : (cur.toList.take (n * 1)).take (k * 1) = cur.toList.take (k * 1) := by rw [List.take_take, Nat.min_eq_left (by omega)]
    rw [← e, htk]; simp [u8s, List.map_take]
theorem slice_to (A : Option Addr) (m c a : Nat) (h : a ≤ c) (w : World) : (Instr.sliceAt 81 (.slice A m c) none (some (.int .i64 a)) none).run Try.prog w = .ok (.slice A a c) w := by
  have h1 : (0 : Int) ≤ (a : Int) := by omega
  have h2 : (a : Int) ≤ (c : Int) := by omega
  go_simp

set_option maxRecDepth 100000 in
set_option maxHeartbeats 1600000 in
theorem disk_done (c : Ch) (v : Value) (l : List UInt8) (w : World) (hown : w.ownsRow 0 5 1 v l.length (u8s l)) (hl : l.length ≤ 67108864) (hc : c.fits) :
    Calls Try.prog 76 #[chVal c, v] w (RowPost w 5 1 v (c.done l).length (u8s (c.done l))) := by
  obtain ⟨i0, hi, hz0, hz1, hz2⟩ := info_parts infoByte
  obtain ⟨f, a, t, b⟩ := c
  obtain ⟨hf, ha, hat, hct⟩ := hc
  simp only at hf ha hat hct
  show Calls Try.prog 76 #[.agg #[.int .i64 f, .int .i64 a, .string t, .bool b], v] w _
  have HO := Lib.hid hown
  have HW := Lib.hid (Has.new w 112 #[.int .i64 f, .int .i64 a, .string t, .bool b])
  have HB0 := Lib.hid ((Below.refl w.heap.size w).alloc (Nat.le_refl _) (.cells #[.int .i64 f, .int .i64 a, .string t, .bool b] 112))
  clear hown
  cases b with
  | false =>
    have E := Lib.hid (show Ch.done ⟨f, a, t, false⟩ l = putL l a t.data.toList from rfl)
    have T := Lib.hid (fun w1 h1 => disk_put v l a t w1 h1 hl hat)
    rw [E.out]
    go_enter Try.func76, Try.ntmps76
    go_wp2_with (go_at_call 110; (with_reducible refine (T.out _ (HO.out.alloc _)).mono ?_); rintro e w1 ⟨v1, rfl, hown1, hr1⟩)
    go_ret
    exact ⟨v1, rfl, hown1, hr1.start HB0.out⟩
  | true =>
    have E := Lib.hid (show Ch.done ⟨f, a, t, true⟩ l = (zerosTo l a).take a from rfl)
    rw [E.out]
    have HB := Lib.hid HB0.out.size
    go_enter Try.func76, Try.ntmps76
    go_wp2_with fail
    go_loopw [1] (fun v1 wr => ∃ m : Nat, l.length ≤ m ∧ m ≤ max l.length a ∧ wr.ownsRow 0 5 1 v1 m (u8s (zerosTo l m)) ∧ Rst w v wr v1 ∧ Has wr w.heap.size 112 #[.int .i64 f, .int .i64 a, .string t, .bool true] ∧ ∀ k, v1.ownBlock = some k → k ≠ w.heap.size) (fun v1 _ => a - lenV v1)
    case atStart => exact ⟨l.length, Nat.le_refl _, by omega, by rw [zerosTo_big (Nat.le_refl _)]; exact HO.out.alloc _, (Rst.refl _ _).alloc _, HW.out, fun k hk e => by have := (HO.out.lt k hk).2; omega⟩
    case round =>
      obtain ⟨m, hm1, hm2, ho, hr, hw, hne⟩ := hrel
      have hm3 : m ≤ 67108864 := by omega
      obtain ⟨A, c, rfl, hmc, _⟩ := BS.of_own ho
      have HO1 := Lib.hid ho
      have HR := Lib.hid hr
      have HWr := Lib.hid hw
      have HNE := Lib.hid hne
      obtain ⟨c0, c1, c2⟩ := (show wr.cell? ⟨w.heap.size, 1, none⟩ = some (.int .i64 a) ∧ True ∧ True from ⟨hw.cell 1, trivial, trivial⟩)
      have cz := hw.lt
      clear HO ho hr hw hne HW HB0
      by_cases hmN : m < a
      · have G1 := Lib.hid (show m + 1 ≤ maxLen by unfold maxLen; omega)
        have G2 := Lib.hid (show (m + 1) * 1 ≤ 140737488355328 by omega)
        have HZ := Lib.hid (zerosTo_step hm1 hmN)
        go_wp2_with ((at_builtin; refine wpList_append_src _ rfl (.tmp 12) (.tmp 13) 81 81 rfl (0) 5 i0 _ 1 1 Try.underlying81 hi hz0 hz1 hz2 zeroByte1 (by decide) (_) (m) (_) rfl (HO1.out.alloc _) (.slice (some ⟨_, 0, none⟩) 1 1) (1) ([Value.int .u8 0]) rfl (Src.ofSlice _ Try.underlying81 ⟨_, 0, none⟩ 1 1 ([Value.int .u8 0]) rfl (World.news_of_block (heap_alloc_new _ _)) (by simp [Value.oneCell'])) (G1.out) (G2.out) (Nat.zero_le _) ?_; intro v1 w1 hown1 hg1 _ hat1); have HO2 := Lib.hid hown1; have HR2 := Lib.hid ((HR.out.alloc _).app hg1 hat1); have HW2 := Lib.hid ((HWr.out.alloc _).grown hg1 (fun e => HNE.out _ e.symm rfl)); have HNE2 := Lib.hid (ne_app HNE.out hat1 (by simp; omega)); clear hown1 hg1 hat1)
        rw [u8s_zero, HZ.out] at HO2
        obtain ⟨A2, c2, hv2, _, _⟩ := BS.of_own HO2.out
        have HV2 := Lib.hid hv2
        clear hv2
        go_roundw
        case rel => exact ⟨m + 1, by omega, by omega, HO2.out, HR2.out, HW2.out, HNE2.out⟩
        case measure => rw [HV2.out]; simp [lenV]; omega
      · have ham : a ≤ m := by omega
        have hac : a ≤ c := by omega
        have hsl := fun w => slice_to A m c a hac w
        have HMX := Lib.hid (show m = max l.length a by omega)
        go_wp2_with fail
        go_ret
        have ho := own_len HO1.out ham
        have hz : zerosTo l m = zerosTo l a := by unfold zerosTo; rw [show m - l.length = a - l.length by have := HMX.out; omega]
        have hl2 : ((zerosTo l a).take a).length = a := by rw [List.length_take, zerosTo_len]; omega
        rw [hz] at ho
        refine ⟨_, rfl, ?_, HR.out.trans ⟨grownBy_refl _ _, .inl ?_⟩⟩
        · rw [hl2]; exact ho
        · cases A <;> rfl

end Go.Proofs.Ytjihboddejaelaa

/-
  The methods of disk.Disk (1): turn, right, Down, Count, Waits, Fail, Size, Read, New.
-/
namespace Go.Proofs.Ytjihboddejaelaa
set_option linter.unusedVariables false
set_option linter.unusedSimpArgs false
open Go.RowKit
open Go.BigFrame
set_option linter.unusedVariables false
set_option linter.unusedSimpArgs false

def rowB (v : Value) (l : List UInt8) : Row := ⟨v, 5, 1, l.length, u8s l⟩
def chCells (ws : List Ch) : List Value := ws.flatMap Ch.cells
def rowC (v : Value) (ws : List Ch) : Row := ⟨v, 112, 4, ws.length, chCells ws⟩
def dCells (fs : Int) (dn : Bool) (ct : Nat) (vl0 vs0 vl1 vs1 vw : Value) : Array Value := #[vl0, vs0, vl1, vs1, vw, .int .i64 fs, .bool dn, .int .i64 ct]
def dRows (l0 s0 l1 s1 : List UInt8) (ws : List Ch) (vl0 vs0 vl1 vs1 vw : Value) : List Row := [rowB vl0 l0, rowB vs0 s0, rowB vl1 l1, rowB vs1 s1, rowC vw ws]
/-- what lies at block g, in blocks b: two files' bytes, as they last and as they are seen, and what waits -/
def DPx (w : World) (b : List (Option Nat)) (g : Nat) (l0 s0 l1 s1 : List UInt8) (ws : List Ch) (fs : Int) (dn : Bool) (ct : Nat) : Prop :=
  ∃ vl0 vs0 vl1 vs1 vw, b = blks g (dRows l0 s0 l1 s1 ws vl0 vs0 vl1 vs1 vw) ∧ Ob w g 87 (dCells fs dn ct vl0 vs0 vl1 vs1 vw) (dRows l0 s0 l1 s1 ws vl0 vs0 vl1 vs1 vw)
/-- the disk D lies at block g, in blocks b -/
def DP (w : World) (b : List (Option Nat)) (g : Nat) (D : Dk) : Prop := DPx w b g D.l0 (D.seen 0) D.l1 (D.seen 1) D.waits D.fails D.down D.count
/-- a method has turned the disk into D' -/
def DPost (w : World) (b : List (Option Nat)) (g : Nat) (D' : Dk) (r : Value) (e : Ending) (w' : World) : Prop :=
  e = .returned r ∧ ∃ b', DP w' b' g D' ∧ Turn b b' w w'
section
variable {w w' : World} {b : List (Option Nat)} {g : Nat} {D : Dk} {t : TypeId} {a0 a1 a2 a3 a4 a5 a6 a7 : Value}
theorem Has.cells8 (h : Has w g t #[a0, a1, a2, a3, a4, a5, a6, a7]) : w.cell? ⟨g, 0, none⟩ = some a0 ∧ w.cell? ⟨g, 1, none⟩ = some a1 ∧ w.cell? ⟨g, 2, none⟩ = some a2 ∧ w.cell? ⟨g, 3, none⟩ = some a3 ∧ w.cell? ⟨g, 4, none⟩ = some a4 ∧ w.cell? ⟨g, 5, none⟩ = some a5 ∧ w.cell? ⟨g, 6, none⟩ = some a6 ∧ w.cell? ⟨g, 7, none⟩ = some a7 :=
  ⟨h.cell 0, h.cell 1, h.cell 2, h.cell 3, h.cell 4, h.cell 5, h.cell 6, h.cell 7⟩
theorem DP.below (h : DP w b g D) (hb : Below w.heap.size w w') : DP w' b g D := by
  obtain ⟨v0, v1, v2, v3, v4, h1, h2⟩ := h
  exact ⟨v0, v1, v2, v3, v4, h1, h2.below hb⟩
theorem DP.lt (h : DP w b g D) {k : Nat} (hk : some k ∈ b) : k < w.heap.size := by
  obtain ⟨v0, v1, v2, v3, v4, rfl, h2⟩ := h
  exact h2.lt hk
end

set_option maxRecDepth 100000 in
set_option maxHeartbeats 1600000 in
theorem disk_turn (g : Nat) (D : Dk) (b : List (Option Nat)) (w : World) (h : DP w b g D) (hok : D.ok) (hc : D.count ≤ 4000000000000000000) :
    Calls Try.prog 100 #[.pointer (some ⟨g, 0, none⟩)] w (DPost w b g D.turn (.int .i64 D.turnE)) := by
  obtain ⟨v0, v1, v2, v3, v4, rfl, hO⟩ := h
  have HOb := Lib.hid hO
  obtain ⟨c0, c1, c2, c3, c4, c5, c6, c7⟩ := hO.has.cells8
  have cf := hO.has.frozen
  have cz := hO.has.lt
  have hfl := hok.fails
  obtain ⟨l0, l1, ws, fs, dn, ct⟩ := D
  simp only at c5 c6 c7 hfl hc
  clear hO
  obtain ⟨hf1, hf2⟩ := hfl
  cases dn with
  | true =>
    have E := Lib.hid (show Dk.turn ⟨l0, l1, ws, fs, true, ct⟩ = ⟨l0, l1, ws, fs, true, ct⟩ ∧ Dk.turnE ⟨l0, l1, ws, fs, true, ct⟩ = 2 from ⟨if_pos (.inl rfl), if_pos (.inl rfl)⟩)
    rw [E.out.1, E.out.2]
    go_enter Try.func100, Try.ntmps100
    go_wp2_with fail
    go_ret
    exact ⟨rfl, _, ⟨v0, v1, v2, v3, v4, rfl, HOb.out.set 6 (.bool true)⟩, Turn.set _ _ _ _ _⟩
  | false =>
    by_cases f0 : fs = 0
    · have E := Lib.hid (show Dk.turn ⟨l0, l1, ws, fs, false, ct⟩ = ⟨l0, l1, ws, fs, true, ct⟩ ∧ Dk.turnE ⟨l0, l1, ws, fs, false, ct⟩ = 2 from ⟨if_pos (.inr f0), if_pos (.inr f0)⟩)
      rw [E.out.1, E.out.2]
      subst f0
      go_enter Try.func100, Try.ntmps100
      go_wp2_with fail
      go_ret
      exact ⟨rfl, _, ⟨v0, v1, v2, v3, v4, rfl, HOb.out.set 6 (.bool true)⟩, Turn.set _ _ _ _ _⟩
    · have hst : ¬ Dk.stops ⟨l0, l1, ws, fs, false, ct⟩ := fun h => h.elim (fun h => by cases h) f0
      have E := Lib.hid (show Dk.turn ⟨l0, l1, ws, fs, false, ct⟩ = ⟨l0, l1, ws, if 0 < fs then fs - 1 else fs, false, ct + 1⟩ ∧ Dk.turnE ⟨l0, l1, ws, fs, false, ct⟩ = 0 from ⟨if_neg hst, if_neg hst⟩)
      rw [E.out.1, E.out.2]
      have fe : (fs == 0) = false := by rw [beq_eq_false_iff_ne]; exact f0
      have ec : ((ct + 1 : Nat) : Int) = (ct : Int) + 1 := by omega
      clear hst f0
      by_cases f1 : 0 < fs
      · rw [if_pos f1]
        go_enter Try.func100, Try.ntmps100
        go_wp2_with fail
        go_ret
        refine ⟨rfl, _, ⟨v0, v1, v2, v3, v4, rfl, ?_⟩, (Turn.set _ _ 5 (.int .i64 (fs - 1)) _).trans (Turn.set _ _ 7 (.int .i64 ((ct : Int) + 1)) _)⟩
        exact (HOb.out.set 5 (.int .i64 (fs - 1))).set 7 (.int .i64 ((ct : Int) + 1))
      · rw [if_neg f1]
        go_enter Try.func100, Try.ntmps100
        go_wp2_with fail
        go_ret
        refine ⟨rfl, _, ⟨v0, v1, v2, v3, v4, rfl, ?_⟩, Turn.set _ _ 7 (.int .i64 ((ct : Int) + 1)) _⟩
        exact HOb.out.set 7 (.int .i64 ((ct : Int) + 1))

def fitsB (f a n : Int) : Bool := decide (fitsF f a n)
theorem fitsB_yes {f a n : Int} (h : fitsF f a n) : fitsB f a n = true := decide_eq_true h
theorem fitsB_no {f a n : Int} (h : ¬ fitsF f a n) : fitsB f a n = false := decide_eq_false h
set_option maxHeartbeats 3200000 in
theorem disk_right (f a n : Int) (w : World) : Calls Try.prog 96 #[.int .i64 f, .int .i64 a, .int .i64 n] w fun e w' => e = .returned (.bool (fitsB f a n)) ∧ w = w' := by
  by_cases h0 : 0 ≤ f
  rotate_left
  · have E := Lib.hid (show fitsB f a n = false from fitsB_no (fun h => by obtain ⟨g0, g1, g2, g3, g4, g5⟩ := h; omega))
    go_enter Try.func96, Try.ntmps96
    go_wp2_with fail
    go_ret
    exact ⟨ret_bool (by rw [E.out]), rfl⟩
  by_cases h1 : f < 2
  rotate_left
  · have E := Lib.hid (show fitsB f a n = false from fitsB_no (fun h => by obtain ⟨g0, g1, g2, g3, g4, g5⟩ := h; omega))
    go_enter Try.func96, Try.ntmps96
    go_wp2_with fail
    go_ret
    exact ⟨ret_bool (by rw [E.out]), rfl⟩
  by_cases h2 : 0 ≤ a
  rotate_left
  · have E := Lib.hid (show fitsB f a n = false from fitsB_no (fun h => by obtain ⟨g0, g1, g2, g3, g4, g5⟩ := h; omega))
    go_enter Try.func96, Try.ntmps96
    go_wp2_with fail
    go_ret
    exact ⟨ret_bool (by rw [E.out]), rfl⟩
  by_cases h3 : 0 ≤ n
  rotate_left
  · have E := Lib.hid (show fitsB f a n = false from fitsB_no (fun h => by obtain ⟨g0, g1, g2, g3, g4, g5⟩ := h; omega))
    go_enter Try.func96, Try.ntmps96
    go_wp2_with fail
    go_ret
    exact ⟨ret_bool (by rw [E.out]), rfl⟩
  by_cases h4 : a ≤ 67108864
  rotate_left
  · have E := Lib.hid (show fitsB f a n = false from fitsB_no (fun h => by obtain ⟨g0, g1, g2, g3, g4, g5⟩ := h; omega))
    go_enter Try.func96, Try.ntmps96
    go_wp2_with fail
    go_ret
    exact ⟨ret_bool (by rw [E.out]), rfl⟩
  by_cases h5 : n ≤ 67108864 - a
  rotate_left
  · have E := Lib.hid (show fitsB f a n = false from fitsB_no (fun h => by obtain ⟨g0, g1, g2, g3, g4, g5⟩ := h; omega))
    go_enter Try.func96, Try.ntmps96
    go_wp2_with fail
    go_ret
    exact ⟨ret_bool (by rw [E.out]), rfl⟩
  have E := Lib.hid (show fitsB f a n = true from fitsB_yes ⟨h0, h1, h2, h3, h4, h5⟩)
  go_enter Try.func96, Try.ntmps96
  go_wp2_with fail
  go_ret
  exact ⟨ret_bool (by rw [E.out]), rfl⟩

set_option maxHeartbeats 400000 in
theorem disk_Down (g : Nat) (D : Dk) (b : List (Option Nat)) (w : World) (h : DP w b g D) : Calls Try.prog 22 #[.pointer (some ⟨g, 0, none⟩)] w fun e w' => e = .returned (.bool D.down) ∧ w = w' := by
  obtain ⟨v0, v1, v2, v3, v4, rfl, hO⟩ := h
  obtain ⟨c0, c1, c2, c3, c4, c5, c6, c7⟩ := hO.has.cells8
  go_enter Try.func22, Try.ntmps22
  go_wp2_with fail
  go_ret
  exact ⟨rfl, rfl⟩
set_option maxHeartbeats 400000 in
theorem disk_Count (g : Nat) (D : Dk) (b : List (Option Nat)) (w : World) (h : DP w b g D) : Calls Try.prog 60 #[.pointer (some ⟨g, 0, none⟩)] w fun e w' => e = .returned (.int .i64 D.count) ∧ w = w' := by
  obtain ⟨v0, v1, v2, v3, v4, rfl, hO⟩ := h
  obtain ⟨c0, c1, c2, c3, c4, c5, c6, c7⟩ := hO.has.cells8
  go_enter Try.func60, Try.ntmps60
  go_wp2_with fail
  go_ret
  exact ⟨rfl, rfl⟩
theorem own_form {w : World} {b : Nat} {e : TypeId} {size : Nat} {v : Value} {n : Nat} {xs : List Value} (h : w.ownsRow b e size v n xs) : ∃ A c, v = .slice A n c ∧ n ≤ c := by
  rcases h.2 with ⟨rfl, rfl⟩ | ⟨g, cap, cur, rfl, _, _, hn, _⟩
  · exact ⟨none, 0, rfl, Nat.le_refl _⟩
  · exact ⟨_, _, rfl, hn⟩
theorem Ob.own {w : World} {g : Nat} {t : TypeId} {cs : Array Value} {rs : List Row} (h : Ob w g t cs rs) (i : Nat) {r : Row} (hr : rs[i]? = some r) : w.ownsRow 0 r.e r.size r.v r.n r.xs := h.rows r (List.mem_of_getElem? hr)
set_option maxHeartbeats 400000 in
theorem disk_Waits (g : Nat) (D : Dk) (b : List (Option Nat)) (w : World) (h : DP w b g D) : Calls Try.prog 61 #[.pointer (some ⟨g, 0, none⟩)] w fun e w' => e = .returned (.int .i64 D.waits.length) ∧ w = w' := by
  obtain ⟨v0, v1, v2, v3, v4, rfl, hO⟩ := h
  obtain ⟨A, c, hv, _⟩ := own_form (hO.own 4 rfl)
  obtain ⟨c0, c1, c2, c3, c4, c5, c6, c7⟩ := hO.has.cells8
  rw [show v4 = .slice A D.waits.length c from hv] at c4
  clear hO hv
  go_enter Try.func61, Try.ntmps61
  go_wp2_with fail
  go_ret
  exact ⟨rfl, rfl⟩
set_option maxHeartbeats 400000 in
theorem disk_Fail (g : Nat) (D : Dk) (b : List (Option Nat)) (n : Int) (w : World) (h : DP w b g D) : Calls Try.prog 13 #[.pointer (some ⟨g, 0, none⟩), .int .i64 n] w (DPost w b g (D.fail n) (.tuple #[])) := by
  obtain ⟨v0, v1, v2, v3, v4, rfl, hO⟩ := h
  have HOb := Lib.hid hO
  obtain ⟨c0, c1, c2, c3, c4, c5, c6, c7⟩ := hO.has.cells8
  have cf := hO.has.frozen
  have cz := hO.has.lt
  clear hO
  by_cases hn : n < 0
  · have E := Lib.hid (show D.fail n = { D with fails := -1 } by unfold Dk.fail; rw [if_pos hn])
    rw [E.out]
    have hm : max n (-1) = -1 := by omega
    go_enter Try.func13, Try.ntmps13
    go_wp2_with fail
    go_end0
    exact ⟨rfl, _, ⟨v0, v1, v2, v3, v4, rfl, HOb.out.set 5 (.int .i64 (-1))⟩, Turn.set _ _ _ _ _⟩
  · have E := Lib.hid (show D.fail n = { D with fails := n } by unfold Dk.fail; rw [if_neg hn])
    rw [E.out]
    have hm : max n (-1) = n := by omega
    go_enter Try.func13, Try.ntmps13
    go_wp2_with fail
    go_end0
    exact ⟨rfl, _, ⟨v0, v1, v2, v3, v4, rfl, HOb.out.set 5 (.int .i64 n)⟩, Turn.set _ _ _ _ _⟩

theorem slice_mid {w : World} {A : Option Addr} {m c a n : Nat} {l : List UInt8} (hown : w.ownsRow 0 5 1 (.slice A m c) m (u8s l)) (h : a + n ≤ m) :
    ∃ dp k, (∀ w1 : World, (Instr.sliceAt 81 (.slice A m c) (some (.int .i64 a)) (some (.int .i64 ((a : Int) + (n : Int)))) none).run Try.prog w1 = .ok (.slice dp n k) w1) ∧ BS w dp n ((l.drop a).take n) := by
  obtain ⟨A', c', hv, hmc, hb⟩ := BS.of_own hown
  cases hv
  have h1 : (0 : Int) ≤ (a : Int) := by omega
  have h2 : (a : Int) ≤ (a : Int) + (n : Int) := by omega
  have h3 : (a : Int) + (n : Int) ≤ (c : Int) := by omega
  have e1 : ((a : Int) + (n : Int)).toNat - a = n := by omega
  refine ⟨if c = a then A else A.map (·.add (a * 1)), c - a, fun w1 => ?_, ?_⟩
  · go_simp
  · have hl := hb.1
    refine ⟨by rw [List.length_take, List.length_drop]; omega, fun hn => ?_⟩
    obtain ⟨g, off, rfl, hg, hc⟩ := hb.2 (by omega)
    rw [if_neg (by omega)]
    refine ⟨g, off + a, by simp only [Option.map_some, addr_add]; simp, hg, fun i v hv => ?_⟩
    rw [List.getElem?_take] at hv
    split at hv
    · rw [List.getElem?_drop] at hv
      rw [Nat.add_assoc]; exact hc _ _ hv
    · cases hv
/-- the row of a file's bytes as they are seen -/
theorem DP.seen {w : World} {b : List (Option Nat)} {g : Nat} {D : Dk} (h : DP w b g D) (f : Nat) (hf : f < 2) : ∃ v A c, w.cell? ⟨g, 2 * f + 1, none⟩ = some v ∧ v = .slice A (D.seen f).length c ∧ w.ownsRow 0 5 1 v (D.seen f).length (u8s (D.seen f)) := by
  obtain ⟨v0, v1, v2, v3, v4, rfl, hO⟩ := h
  obtain ⟨c0, c1, c2, c3, c4, c5, c6, c7⟩ := hO.has.cells8
  rcases (show f = 0 ∨ f = 1 by omega) with rfl | rfl
  · have ho := hO.own 1 rfl
    obtain ⟨A, c, hv, _⟩ := own_form ho
    exact ⟨v1, A, c, c1, hv, ho⟩
  · have ho := hO.own 3 rfl
    obtain ⟨A, c, hv, _⟩ := own_form ho
    exact ⟨v3, A, c, c3, hv, ho⟩
theorem DP.down {w : World} {b : List (Option Nat)} {g : Nat} {D : Dk} (h : DP w b g D) : w.cell? ⟨g, 6, none⟩ = some (.bool D.down) ∧ g < w.heap.size ∧ ∀ i, w.frozen? ⟨g, i, none⟩ = false := by
  obtain ⟨v0, v1, v2, v3, v4, rfl, hO⟩ := h
  exact ⟨hO.has.cells8.2.2.2.2.2.2.1, hO.has.lt, hO.has.frozen⟩
set_option maxRecDepth 100000 in
set_option maxHeartbeats 1600000 in
theorem disk_Size (g : Nat) (D : Dk) (b : List (Option Nat)) (f : Int) (w : World) (h : DP w b g D) (hok : D.ok) : Calls Try.prog 55 #[.pointer (some ⟨g, 0, none⟩), .int .i64 f] w fun e w' => e = .returned (.tuple #[.int .i64 (D.sizeN f), .int .i64 (D.sizeE f)]) ∧ w = w' := by
  obtain ⟨c6, cz, _⟩ := h.down
  have R := Lib.hid (fun w1 => disk_right f 0 0 w1)
  by_cases hf : 0 ≤ f ∧ f < 2
  · rw [fitsB_yes ⟨hf.1, hf.2, by omega, by omega, by omega, by omega⟩] at R
    obtain ⟨F, rfl⟩ : ∃ F : Nat, f = F := ⟨f.toNat, by omega⟩
    cases hd : D.down with
    | true =>
      have E := Lib.hid (show D.sizeN F = 0 ∧ D.sizeE F = 2 from ⟨if_neg (fun h => by rw [hd] at h; exact absurd h.2.2 (by decide)), by unfold Dk.sizeE; rw [if_pos hf, if_pos hd]⟩)
      rw [E.out.1, E.out.2]
      rw [hd] at c6
      clear hd
      go_enter Try.func55, Try.ntmps55
      go_wp2_with (go_at_call 96; (with_reducible refine (R.out _).mono ?_); rintro e w1 ⟨rfl, rfl⟩)
      go_ret2
      exact ⟨rfl, rfl⟩
    | false =>
      have E := Lib.hid (show D.sizeN F = (D.seen F).length ∧ D.sizeE F = 0 from ⟨if_pos ⟨hf.1, hf.2, hd⟩, by unfold Dk.sizeE; rw [if_pos hf, if_neg (by rw [hd]; decide)]⟩)
      rw [E.out.1, E.out.2]
      rw [hd] at c6
      obtain ⟨v, A, c, cv, rfl, _⟩ := h.seen F (by omega)
      obtain ⟨S, hS⟩ : ∃ S, (D.seen F).length = S := ⟨_, rfl⟩
      rw [hS] at cv ⊢
      clear hd hS h
      obtain ⟨hf1, hf2⟩ := hf
      rcases (show F = 0 ∨ F = 1 by omega) with rfl | rfl
      all_goals
        (first | rw [show ((0 : Nat) : Int) = 0 from rfl] at R | rw [show ((1 : Nat) : Int) = 1 from rfl] at R)
        go_enter Try.func55, Try.ntmps55
        go_wp2_with (go_at_call 96; (with_reducible refine (R.out _).mono ?_); rintro e w1 ⟨rfl, rfl⟩)
        go_ret2
        exact ⟨rfl, rfl⟩
  · rw [fitsB_no (fun h => hf ⟨h.1, h.2.1⟩)] at R
    have E := Lib.hid (show D.sizeN f = 0 ∧ D.sizeE f = 1 from ⟨if_neg (fun h => hf ⟨h.1, h.2.1⟩), if_neg hf⟩)
    rw [E.out.1, E.out.2]
    clear hf
    go_enter Try.func55, Try.ntmps55
    go_wp2_with (go_at_call 96; (with_reducible refine (R.out _).mono ?_); rintro e w1 ⟨rfl, rfl⟩)
    go_ret2
    exact ⟨rfl, rfl⟩

set_option maxRecDepth 100000 in
set_option maxHeartbeats 3200000 in
theorem disk_Read (g : Nat) (D : Dk) (b : List (Option Nat)) (f a n : Int) (w : World) (h : DP w b g D) (hok : D.ok) : Calls Try.prog 49 #[.pointer (some ⟨g, 0, none⟩), .int .i64 f, .int .i64 a, .int .i64 n] w fun e w' => e = .returned (.tuple #[.string (D.readS f a n), .int .i64 (D.readE f a n)]) ∧ w = w' := by
  obtain ⟨c6, cz, _⟩ := h.down
  have R := Lib.hid (fun w1 => disk_right f a n w1)
  by_cases hf : fitsF f a n
  · rw [fitsB_yes hf] at R
    cases hd : D.down with
    | true =>
      have E := Lib.hid (show D.readS f a n = ⟨#[]⟩ ∧ D.readE f a n = 2 from ⟨if_neg (fun h => by rw [hd] at h; exact absurd h.2.1 (by decide)), by unfold Dk.readE; rw [if_pos hf, if_pos hd]⟩)
      rw [E.out.1, E.out.2]
      rw [hd] at c6
      clear hd
      go_enter Try.func49, Try.ntmps49
      go_wp2_with (go_at_call 96; (with_reducible refine (R.out _).mono ?_); rintro e w1 ⟨rfl, rfl⟩)
      go_ret2
      exact ⟨rfl, rfl⟩
    | false =>
      obtain ⟨f1, f2, f3, f4, f5, f6⟩ := hf
      have HF : Hid (fitsF f a n) := ⟨f1, f2, f3, f4, f5, f6⟩
      obtain ⟨F, rfl⟩ : ∃ F : Nat, f = F := ⟨f.toNat, by omega⟩
      obtain ⟨a, rfl⟩ : ∃ F : Nat, a = F := ⟨a.toNat, by omega⟩
      obtain ⟨n, rfl⟩ : ∃ F : Nat, n = F := ⟨n.toNat, by omega⟩
      rw [hd] at c6
      obtain ⟨v, A, c, cv, rfl, ho⟩ := h.seen F (by omega)
      have hsl := hok.seen F
      obtain ⟨S, hS⟩ : ∃ S, (D.seen F).length = S := ⟨_, rfl⟩
      by_cases hfit : a + n ≤ (D.seen F).length
      · have E := Lib.hid (show D.readS F a n = bsOf (((D.seen F).drop a).take n) ∧ D.readE F a n = 0 from ⟨if_pos ⟨HF.out, hd, by simpa using (by omega : (a : Int) + n ≤ (D.seen F).length)⟩, by unfold Dk.readE; rw [if_pos HF.out, if_neg (by rw [hd]; decide), if_pos (by simpa using (by omega : (a : Int) + n ≤ (D.seen F).length))]⟩)
        rw [E.out.1, E.out.2]
        obtain ⟨dp, k, hs, hb⟩ := slice_mid ho hfit
        have hcv := conv_BS (c := k) hb
        obtain ⟨T, hT⟩ : ∃ T, bsOf (((D.seen F).drop a).take n) = T := ⟨_, rfl⟩
        rw [hT] at hcv ⊢
        rw [hS] at cv hs hfit hsl
        clear hd hS h ho hb hT
        rcases (show F = 0 ∨ F = 1 by omega) with rfl | rfl
        all_goals
          (first | rw [show ((0 : Nat) : Int) = 0 from rfl] at R | rw [show ((1 : Nat) : Int) = 1 from rfl] at R)
          go_enter Try.func49, Try.ntmps49
          go_wp2_with (go_at_call 96; (with_reducible refine (R.out _).mono ?_); rintro e w1 ⟨rfl, rfl⟩)
          go_ret2
          exact ⟨rfl, rfl⟩
      · have E := Lib.hid (show D.readS F a n = ⟨#[]⟩ ∧ D.readE F a n = 3 from ⟨if_neg (fun h => hfit (by have := h.2.2; simp at this; omega)), by unfold Dk.readE; rw [if_pos HF.out, if_neg (by rw [hd]; decide), if_neg (fun h => hfit (by simp at h; omega))]⟩)
        rw [E.out.1, E.out.2]
        rw [hS] at cv hfit hsl
        clear hd hS h ho
        rcases (show F = 0 ∨ F = 1 by omega) with rfl | rfl
        all_goals
          (first | rw [show ((0 : Nat) : Int) = 0 from rfl] at R | rw [show ((1 : Nat) : Int) = 1 from rfl] at R)
          go_enter Try.func49, Try.ntmps49
          go_wp2_with (go_at_call 96; (with_reducible refine (R.out _).mono ?_); rintro e w1 ⟨rfl, rfl⟩)
          go_ret2
          exact ⟨rfl, rfl⟩
  · rw [fitsB_no hf] at R
    have E := Lib.hid (show D.readS f a n = ⟨#[]⟩ ∧ D.readE f a n = 1 from ⟨if_neg (fun h => hf h.1), if_neg hf⟩)
    rw [E.out.1, E.out.2]
    clear hf
    go_enter Try.func49, Try.ntmps49
    go_wp2_with (go_at_call 96; (with_reducible refine (R.out _).mono ?_); rintro e w1 ⟨rfl, rfl⟩)
    go_ret2
    exact ⟨rfl, rfl⟩

def Dk.new : Dk := ⟨[], [], [], -1, false, 0⟩
theorem Dk.new_ok : Dk.new.ok := ⟨by decide, by decide, (fun c hc => by cases hc), by show -1 ≤ (-1 : Int) ∧ (-1 : Int) ≤ 9223372036854775807; omega⟩
/-- a new disk lies at a block that is new -/
def NewPost (w : World) (e : Ending) (w' : World) : Prop := ∃ g b, e = .returned (.pointer (some ⟨g, 0, none⟩)) ∧ DP w' b g Dk.new ∧ Turn [] b w w'
set_option maxHeartbeats 400000 in
theorem disk_New (w : World) : Calls Try.prog 7 #[] w (NewPost w) := by
  go_enter Try.func7, Try.ntmps7
  go_wp2_with fail
  go_ret
  refine ⟨_, _, rfl, ⟨.slice none 0 0, .slice none 0 0, .slice none 0 0, .slice none 0 0, .slice none 0 0, rfl, ⟨Has.new _ _ _, fun r hr => ?_, ?_⟩⟩, ?_⟩
  · simp only [dRows, List.mem_cons, List.mem_nil_iff, or_false] at hr
    rcases hr with rfl | rfl | rfl | rfl | rfl <;> exact World.ownsRow_nil _ _ _ _
  · simp [Apart, blks, dRows, rowB, rowC, Value.ownBlock]
  · refine ⟨rfl, rfl, rfl, by simp, fun k hk _ => Below.heap_alloc _ _ _ hk, fun k hk => ?_⟩
    simp [blks, dRows, rowB, rowC, Value.ownBlock] at hk
    exact .inr (by omega)

end Go.Proofs.Ytjihboddejaelaa

/-
  The methods of disk.Disk (2): change, Write, Cut.
-/
namespace Go.Proofs.Ytjihboddejaelaa
set_option linter.unusedVariables false
set_option linter.unusedSimpArgs false
open Go.RowKit
open Go.BigFrame
set_option linter.unusedVariables false
set_option linter.unusedSimpArgs false

/-- append as one step of a region that draws its order -/
theorem step_append_src {P : Program} {ops : Array Oper} {o : Oper} {a : Act} {w : World} {K : Act → World → Prop} {Q : Exit → Act → World → Prop} {E : Prop} (hgd : o.guard = none) (s x : Operand) (t tx : TypeId)
    (ho : o.op = .call { callee := .builtin .append, args := #[s, x], argTypes := #[t, tx] })
    (base : Nat) (e : TypeId) (i : TypeInfo) (z : Value) (size bytes : Nat) (ht : P.underlying t = some (.slice e)) (hi : P.info? e = some i) (hz : i.zero = some z)
    (hsize : i.size = size) (hby : i.bytes = bytes) (hzs : z.cells.size = size) (hsz : 0 < size)
    (v : Value) (n : Nat) (xs : List Value) (hs : a.eval s = v) (hown : w.ownsRow base e size v n xs)
    (y : Value) (m : Nat) (news : List Value) (hx : a.eval x = y) (hsrc : Src P size tx y m news w)
    (h63 : n + m ≤ maxLen) (hbytes : (n + m) * bytes ≤ 140737488355328) (hbase : base ≤ w.heap.size)
    (h : ∀ A c w', w'.ownsRow base e size (.slice A (n + m) c) (n + m) (xs ++ news) → w.grownBy w' v.ownBlock → (Value.ownBlock (.slice A (n + m) c) = v.ownBlock ∨ Value.ownBlock (.slice A (n + m) c) = some w.heap.size) → K (a.put o.dst (.slice A (n + m) c)) w') :
    if Region.wanted o (yielded ops a.tmps) = true then Oper.wp P o a w K Q else E := by
  have hw : Region.wanted o (yielded ops a.tmps) = true := by simp [Region.wanted, hgd]
  rw [if_pos hw]
  refine wp_append_src w s x t tx ho base e i z size bytes ht hi hz hsize hby hzs hsz v n xs hs hown y m news hx hsrc h63 hbytes hbase fun v' w' h1 h2 _ h4 => ?_
  obtain ⟨A, c, rfl, _⟩ := own_form h1
  exact h A c w' h1 h2 h4

theorem infoCh : (Try.prog.info? 112).map (fun i => (i.zero, i.size, i.bytes)) = some (some (.agg #[.int .i64 0, .int .i64 0, .string ⟨#[]⟩, .bool false]), 4, 40) := by kernel_rfl
theorem zeroCellsCh : (Value.agg #[.int .i64 0, .int .i64 0, .string ⟨#[]⟩, .bool false]).cells.size = 4 := by kernel_rfl

theorem Has.cells4 {w : World} {g : Nat} {t : TypeId} {a0 a1 a2 a3 : Value} (h : Has w g t #[a0, a1, a2, a3]) : w.cell? ⟨g, 0, none⟩ = some a0 ∧ w.cell? ⟨g, 1, none⟩ = some a1 ∧ w.cell? ⟨g, 2, none⟩ = some a2 ∧ w.cell? ⟨g, 3, none⟩ = some a3 :=
  ⟨h.cell 0, h.cell 1, h.cell 2, h.cell 3⟩
theorem chCells_snoc (ws : List Ch) (c : Ch) : chCells (ws ++ [c]) = chCells ws ++ c.cells := by simp [chCells]
theorem DPx.has {w : World} {b : List (Option Nat)} {g : Nat} {l0 s0 l1 s1 : List UInt8} {ws : List Ch} {fs : Int} {dn : Bool} {ct : Nat} (h : DPx w b g l0 s0 l1 s1 ws fs dn ct) : some g ∈ b := by
  obtain ⟨v0, v1, v2, v3, v4, rfl, hO⟩ := h
  exact List.mem_cons_self ..
theorem DPx.lt {w : World} {b : List (Option Nat)} {g : Nat} {l0 s0 l1 s1 : List UInt8} {ws : List Ch} {fs : Int} {dn : Bool} {ct : Nat} (h : DPx w b g l0 s0 l1 s1 ws fs dn ct) {k : Nat} (hk : some k ∈ b) : k < w.heap.size := by
  obtain ⟨v0, v1, v2, v3, v4, rfl, h2⟩ := h
  exact h2.lt hk
theorem DPx.below {w w' : World} {b : List (Option Nat)} {g : Nat} {l0 s0 l1 s1 : List UInt8} {ws : List Ch} {fs : Int} {dn : Bool} {ct : Nat} (h : DPx w b g l0 s0 l1 s1 ws fs dn ct) (hb : Below w.heap.size w w') : DPx w' b g l0 s0 l1 s1 ws fs dn ct := by
  obtain ⟨v0, v1, v2, v3, v4, h1, h2⟩ := h
  exact ⟨v0, v1, v2, v3, v4, h1, h2.below hb⟩
/-- a block that is not the disk's own is kept -/
theorem Has.turn {w w' : World} {b b' : List (Option Nat)} {g : Nat} {t : TypeId} {cs : Array Value} (h : Has w g t cs) (ht : Turn b b' w w') (hn : some g ∉ b) : Has w' g t cs := (ht.block g h.lt hn).trans h
theorem Turn.not {w w' : World} {b b' : List (Option Nat)} (ht : Turn b b' w w') {k : Nat} (hk : k < w.heap.size) (hn : some k ∉ b) : some k ∉ b' := fun h => by
  rcases ht.new k h with h2 | h2
  · exact hn h2
  · omega

theorem chCells_one (c : Ch) : ∀ u ∈ c.cells, u.oneCell' = true := fun u hu => by
  simp only [Ch.cells, List.mem_cons, List.not_mem_nil, or_false] at hu
  rcases hu with rfl | rfl | rfl | rfl <;> rfl
/-- one change more waits: the row has grown -/
theorem ob_app {w w' : World} {g : Nat} {l0 s0 l1 s1 : List UInt8} {ws : List Ch} {fs : Int} {dn : Bool} {ct : Nat} {v0 v1 v2 v3 v4 v' : Value} {c : Ch} {o : Obj}
    (h : Ob w g 87 (dCells fs dn ct v0 v1 v2 v3 v4) (dRows l0 s0 l1 s1 ws v0 v1 v2 v3 v4))
    (hown : w'.ownsRow 0 112 4 v' (ws.length + 1) (chCells ws ++ c.cells)) (hg : (w.drew.alloc o).grownBy w' v4.ownBlock) (hat : v'.ownBlock = v4.ownBlock ∨ v'.ownBlock = some (w.drew.alloc o).heap.size) :
    Ob w' g 87 (dCells fs dn ct v0 v1 v2 v3 v4) (dRows l0 s0 l1 s1 (ws ++ [c]) v0 v1 v2 v3 v') ∧ Turn (blks g (dRows l0 s0 l1 s1 ws v0 v1 v2 v3 v4)) (blks g (dRows l0 s0 l1 s1 (ws ++ [c]) v0 v1 v2 v3 v')) w w' := by
  have hb : Below w.heap.size w (w.drew.alloc o) := (Below.refl _ _).drew.alloc (Nat.le_refl _) _
  have := (h.below hb).row 4 (r := rowC v4 ws) (r' := rowC v' (ws ++ [c])) rfl hg (by
    show w'.ownsRow 0 112 4 v' (ws ++ [c]).length (chCells (ws ++ [c]))
    rw [chCells_snoc, List.length_append]; exact hown) (hat.imp id fun e k hk => by
      have hk2 : v'.ownBlock = some k := hk
      rw [e] at hk2; cases hk2; exact Nat.le_refl _)
  exact ⟨this.1, (Turn.below _ hb).trans this.2⟩
set_option maxRecDepth 100000 in
set_option maxHeartbeats 3200000 in
theorem disk_change (g : Nat) (D : Dk) (b : List (Option Nat)) (c : Ch) (w : World) (h : DP w b g D) (hok : D.ok) (hct : D.count ≤ 4000000000000000000) (hws : D.waits.length ≤ 1000000000) (hc : c.fits) :
    Calls Try.prog 98 #[.pointer (some ⟨g, 0, none⟩), chVal c] w (DPost w b g (D.change c) (.int .i64 D.turnE)) := by
  obtain ⟨i0, hi, hz0, hz1, hz2⟩ := info_parts infoCh
  have HBX := Lib.hid (Has.new w 112 #[.int .i64 c.file, .int .i64 c.at_, .string c.text, .bool c.cut])
  have HB0 := Lib.hid ((Below.refl w.heap.size w).alloc (Nat.le_refl _) (.cells #[.int .i64 c.file, .int .i64 c.at_, .string c.text, .bool c.cut] 112))
  have NB := Lib.hid (show some w.heap.size ∉ b from fun h2 => by have := h.lt h2; omega)
  have HH := Lib.hid h
  have T := Lib.hid (fun w1 (h1 : DP w1 b g D) => disk_turn g D b w1 h1 hok hct)
  have FIT := Lib.hid hc
  have OK := Lib.hid hok
  have hcf : c.file < 2 := hc.1
  show Calls Try.prog 98 #[.pointer (some ⟨g, 0, none⟩), .agg #[.int .i64 c.file, .int .i64 c.at_, .string c.text, .bool c.cut]] w _
  clear h hok hc hct
  by_cases hst : D.stops
  · have E := Lib.hid (show D.turnE = 2 ∧ D.change c = D.turn from ⟨if_pos hst, if_pos hst⟩)
    rw [E.out.2]
    rw [E.out.1] at T ⊢
    clear hst
    go_enter Try.func98, Try.ntmps98
    go_wp2_with (go_at_call 100; (with_reducible refine (T.out _ (HH.out.below HB0.out)).mono ?_); rintro e w1 ⟨rfl, b1, hd1, ht1⟩)
    go_ret
    exact ⟨rfl, b1, hd1, (Turn.below b HB0.out).trans ht1⟩
  · have E := Lib.hid (show D.turnE = 0 from if_neg hst)
    have EC := Lib.hid (show D.change c = { D.turn with waits := D.waits ++ [c] } from if_neg hst)
    have ET := Lib.hid (show D.turn = { D with fails := if 0 < D.fails then D.fails - 1 else D.fails, count := D.count + 1 } from if_neg hst)
    have EW := Lib.hid (fun k => Dk.change_seen D c hst k)
    have EL := Lib.hid (show (D.change c).l0 = D.l0 ∧ (D.change c).l1 = D.l1 ∧ (D.change c).waits = D.waits ++ [c] ∧ (D.change c).fails = D.turn.fails ∧ (D.change c).down = D.turn.down ∧ (D.change c).count = D.turn.count by rw [EC.out]; refine ⟨?_, ?_, rfl, rfl, rfl, rfl⟩ <;> (rw [ET.out]))
    rw [E.out] at T ⊢
    clear hst
    go_enter Try.func98, Try.ntmps98
    go_upto_region 4 with (go_at_call 100; (with_reducible refine (T.out _ (HH.out.below HB0.out)).mono ?_); rintro e w1 ⟨rfl, b1, hd1, ht1⟩)
    have HD1 := Lib.hid (show DPx w1 b1 g D.l0 (D.seen 0) D.l1 (D.seen 1) D.waits D.turn.fails D.turn.down D.turn.count by
      have h2 := hd1
      rw [ET.out] at h2 ⊢
      exact h2)
    have HT1 := Lib.hid ((Turn.below b HB0.out).trans ht1)
    have HX1 := Lib.hid (HBX.out.turn ht1 NB.out)
    have NB1 := Lib.hid (ht1.not (by simp) NB.out)
    clear hd1 ht1
    go_cut [3] (fun s3 wx => s3 = .pointer (some ⟨w.heap.size, 0, none⟩) ∧ ∃ b2, DPx wx b2 g D.l0 (D.seen 0) D.l1 (D.seen 1) (D.waits ++ [c]) D.turn.fails D.turn.down D.turn.count ∧ Turn b b2 w wx ∧ Has wx w.heap.size 112 #[.int .i64 c.file, .int .i64 c.at_, .string c.text, .bool c.cut] ∧ some w.heap.size ∉ b2)
    case first =>
      obtain ⟨v0, v1, v2, v3, v4, rfl, hO⟩ := HD1.out
      have HO := Lib.hid hO
      obtain ⟨c0, c1, c2, c3, c4, c5, c6, c7⟩ := hO.has.cells8
      have cf := hO.has.frozen
      have cz := hO.has.lt
      obtain ⟨x0, x1, x2, x3⟩ := HX1.out.cells4
      have xz := HX1.out.lt
      clear hO
      have G1 := Lib.hid (show D.waits.length + 1 ≤ maxLen by unfold maxLen; omega)
      have G2 := Lib.hid (show (D.waits.length + 1) * 40 ≤ 140737488355328 by omega)
      go_region_law
        (refine step_append_src (by rfl) _ _ _ _ (by rfl) 0 112 i0 _ 4 40 Try.underlying85 hi hz0 hz1 hz2 zeroCellsCh (by omega) v4 D.waits.length (chCells D.waits) (by rfl) ((HO.out.own 4 rfl).drew.alloc _) _ 1 c.cells (by rfl) (Src.ofSlice _ Try.underlying85 ⟨_, 0, none⟩ 1 1 c.cells rfl (World.news_of_block (heap_alloc_new _ _)) (chCells_one c)) G1.out G2.out (Nat.zero_le _) ?_; intro A5 k5 w5 hown5 hgrow hat; have HR := Lib.hid (ob_app HO.out hown5 hgrow hat); have gf5 := HR.out.1.has.frozen; have gc5 := HR.out.1.has.cells8.2.2.2.2.1; have gz5 := HR.out.1.has.lt)
      all_goals
        go_wp2_with fail
        go_meet
        have nb5 := HR.out.2.not HX1.out.lt NB1.out
        refine ⟨rfl, _, ⟨v0, v1, v2, v3, _, rfl, HR.out.1.set 4 _⟩, HT1.out.trans (HR.out.2.trans (Turn.set _ _ _ _ _)), (HX1.out.turn HR.out.2 NB1.out).turn (Turn.set g _ 4 _ w5) nb5, nb5⟩
    case rest =>
      clear HD1 HT1 HX1 NB1
      obtain ⟨rfl, b2, hd2, ht2, hx2, nb2⟩ := hcut
      obtain ⟨v0, v1, v2, v3, v4, rfl, hO⟩ := hd2
      have HO := Lib.hid hO
      have HT2 := Lib.hid ht2
      have HX2 := Lib.hid hx2
      have NB2 := Lib.hid nb2
      have cz := hO.has.lt
      obtain ⟨x0, x1, x2, x3⟩ := hx2.cells4
      have xz := hx2.lt
      clear hO ht2 hx2 nb2
      have OKS := Lib.hid (OK.out.seen)
      rcases (show c.file = 0 ∨ c.file = 1 by omega) with hf | hf
      · have xf : (c.file : Int) = 0 := by omega
        have EW0 := Lib.hid (show (D.change c).seen 0 = c.done (D.seen 0) by rw [EW.out, if_pos hf])
        have EW1 := Lib.hid (show (D.change c).seen 1 = D.seen 1 by rw [EW.out, if_neg (by omega)])
        have HF := Lib.hid hf
        clear hf
        go_wp2_with fail
        refine wp_region_cls (wc) (by kernel_rfl) (by kernel_rfl) (Cls.start _) ?_
        repeat
          first
            | go_big_quiet_skip
            | (go_big_quiet_want; (first | go_big_quiet_op | go_simp); first | go_big_quiet_on | (apply Exists.intro; refine ⟨fun w' hw' => ?_, ?_⟩; (· (first | (with_reducible exact rfl) | (fail) | (obtain ⟨hc, hf⟩ := hw'.facts; go_simp; first | done | (with_reducible exact rfl) | (with_reducible exact ⟨rfl, rfl⟩)))); go_big_quiet_on))
        refine wpQuiet_nil ?_
        intro wq hq
        have HQ := Lib.hid hq
        have HO2 := Lib.hid (HO.out.below hq)
        have HX3 := Lib.hid (HX2.out.belowS hq)
        clear hq x0 x1 x2 x3 xz cz
        obtain ⟨x0, x1, x2, x3⟩ := HX3.out.cells4
        have xz := HX3.out.lt
        obtain ⟨c0, c1, c2, c3, c4, c5, c6, c7⟩ := HO2.out.has.cells8
        have cf := HO2.out.has.frozen
        have cz := HO2.out.has.lt
        go_wp2_with fail
        have T2 := Lib.hid (fun w1 h1 => disk_done c v1 (D.seen 0) w1 h1 (OKS.out 0) FIT.out)
        unfold chVal at T2
        rw [xf] at T2
        go_region_law
          (first | (go_simp; go_at_call 76; (with_reducible refine (T2.out _ ((HO2.out.own 1 rfl).drew)).mono ?_); rintro e w5 ⟨v', rfl, hown5, hr5⟩; obtain ⟨A5, k5, rfl, _⟩ := own_form hown5; have HR := Lib.hid ((HO2.out.below (Below.refl _ _).drew).row 1 (r := rowB v1 (D.seen 0)) (r' := rowB _ (c.done (D.seen 0))) rfl hr5.grown hown5 hr5.at_); have gf5 := HR.out.1.has.frozen; have gc5 := HR.out.1.has.cells8; obtain ⟨g0, g1, g2, g3, g4, g5, g6, g7⟩ := gc5; have gz5 := HR.out.1.has.lt))
        all_goals
          go_wp2_with fail
          go_ret
          refine ⟨rfl, _, ?_, HT2.out.trans ((Turn.below _ HQ.out).trans ((Turn.below _ (Below.refl _ _).drew).trans (HR.out.2.trans (Turn.set _ _ 1 _ _))))⟩
          unfold DP
          rw [EW0.out, EW1.out, EL.out.1, EL.out.2.1, EL.out.2.2.1, EL.out.2.2.2.1, EL.out.2.2.2.2.1, EL.out.2.2.2.2.2]
          exact ⟨_, _, _, _, _, rfl, HR.out.1.set 1 _⟩
      · have xf : (c.file : Int) = 1 := by omega
        have EW0 := Lib.hid (show (D.change c).seen 1 = c.done (D.seen 1) by rw [EW.out, if_pos hf])
        have EW1 := Lib.hid (show (D.change c).seen 0 = D.seen 0 by rw [EW.out, if_neg (by omega)])
        have HF := Lib.hid hf
        clear hf
        go_wp2_with fail
        refine wp_region_cls (wc) (by kernel_rfl) (by kernel_rfl) (Cls.start _) ?_
        repeat
          first
            | go_big_quiet_skip
            | (go_big_quiet_want; (first | go_big_quiet_op | go_simp); first | go_big_quiet_on | (apply Exists.intro; refine ⟨fun w' hw' => ?_, ?_⟩; (· (first | (with_reducible exact rfl) | (fail) | (obtain ⟨hc, hf⟩ := hw'.facts; go_simp; first | done | (with_reducible exact rfl) | (with_reducible exact ⟨rfl, rfl⟩)))); go_big_quiet_on))
        refine wpQuiet_nil ?_
        intro wq hq
        have HQ := Lib.hid hq
        have HO2 := Lib.hid (HO.out.below hq)
        have HX3 := Lib.hid (HX2.out.belowS hq)
        clear hq x0 x1 x2 x3 xz cz
        obtain ⟨x0, x1, x2, x3⟩ := HX3.out.cells4
        have xz := HX3.out.lt
        obtain ⟨c0, c1, c2, c3, c4, c5, c6, c7⟩ := HO2.out.has.cells8
        have cf := HO2.out.has.frozen
        have cz := HO2.out.has.lt
        go_wp2_with fail
        have T2 := Lib.hid (fun w1 h1 => disk_done c v3 (D.seen 1) w1 h1 (OKS.out 1) FIT.out)
        unfold chVal at T2
        rw [xf] at T2
        go_region_law
          (first | (go_simp; go_at_call 76; (with_reducible refine (T2.out _ ((HO2.out.own 3 rfl).drew)).mono ?_); rintro e w5 ⟨v', rfl, hown5, hr5⟩; obtain ⟨A5, k5, rfl, _⟩ := own_form hown5; have HR := Lib.hid ((HO2.out.below (Below.refl _ _).drew).row 3 (r := rowB v3 (D.seen 1)) (r' := rowB _ (c.done (D.seen 1))) rfl hr5.grown hown5 hr5.at_); have gf5 := HR.out.1.has.frozen; have gc5 := HR.out.1.has.cells8; obtain ⟨g0, g1, g2, g3, g4, g5, g6, g7⟩ := gc5; have gz5 := HR.out.1.has.lt))
        all_goals
          go_wp2_with fail
          go_ret
          refine ⟨rfl, _, ?_, HT2.out.trans ((Turn.below _ HQ.out).trans ((Turn.below _ (Below.refl _ _).drew).trans (HR.out.2.trans (Turn.set _ _ 3 _ _))))⟩
          unfold DP
          rw [EW0.out, EW1.out, EL.out.1, EL.out.2.1, EL.out.2.2.1, EL.out.2.2.2.1, EL.out.2.2.2.2.1, EL.out.2.2.2.2.2]
          exact ⟨_, _, _, _, _, rfl, HR.out.1.set 3 _⟩

theorem DPost.refl {w : World} {b : List (Option Nat)} {g : Nat} {D : Dk} {r : Value} (h : DP w b g D) : DPost w b g D r (.returned r) w := ⟨rfl, b, h, Turn.refl _ _⟩
set_option maxRecDepth 100000 in
set_option maxHeartbeats 1600000 in
theorem disk_Write (g : Nat) (D : Dk) (b : List (Option Nat)) (f a : Int) (s : ByteArray) (w : World) (h : DP w b g D) (hok : D.ok) (hct : D.count ≤ 4000000000000000000) (hws : D.waits.length ≤ 1000000000) (hs : s.size ≤ 9223372036854775807) :
    Calls Try.prog 51 #[.pointer (some ⟨g, 0, none⟩), .int .i64 f, .int .i64 a, .string s] w (DPost w b g (D.write f a s) (.int .i64 (D.writeE f a s))) := by
  have R := Lib.hid (fun w1 => disk_right f a s.size w1)
  have HH := Lib.hid h
  by_cases hf : fitsF f a s.size
  · rw [fitsB_yes hf] at R
    have T := Lib.hid (fun w1 (h1 : DP w1 b g D) => disk_change g D b ⟨f.toNat, a.toNat, s, false⟩ w1 h1 hok hct hws ⟨by show f.toNat < 2; have := hf.1; have := hf.2.1; omega, by show a.toNat ≤ _; have := hf.2.2.2.2.1; omega, by show a.toNat + s.size ≤ _; obtain ⟨h1, h2, h3, h4, h5, h6⟩ := hf; omega, fun h => by cases h⟩)
    have E := Lib.hid (show D.write f a s = D.change ⟨f.toNat, a.toNat, s, false⟩ ∧ D.writeE f a s = D.turnE from ⟨if_pos hf, if_pos hf⟩)
    rw [E.out.1, E.out.2]
    unfold chVal at T
    simp only at T
    rw [show ((f.toNat : Nat) : Int) = f from Int.toNat_of_nonneg hf.1, show ((a.toNat : Nat) : Int) = a from Int.toNat_of_nonneg hf.2.2.1] at T
    obtain ⟨x, hx⟩ : ∃ x, D.turnE = x := ⟨_, rfl⟩
    obtain ⟨D', hD'⟩ : ∃ x, D.change ⟨f.toNat, a.toNat, s, false⟩ = x := ⟨_, rfl⟩
    rw [hx, hD'] at T ⊢
    clear hx hD' hok hct hws h hf
    go_enter Try.func51, Try.ntmps51
    go_wp2_with (first | (go_at_call 96; (with_reducible refine (R.out _).mono ?_); rintro e w1 ⟨rfl, rfl⟩) | (go_at_call 98; (with_reducible refine (T.out _ HH.out).mono ?_); rintro e w2 ⟨rfl, hp⟩))
    go_ret
    exact ⟨rfl, hp⟩
  · rw [fitsB_no hf] at R
    have E := Lib.hid (show D.write f a s = D ∧ D.writeE f a s = 1 from ⟨if_neg hf, if_neg hf⟩)
    rw [E.out.1, E.out.2]
    clear hf h
    go_enter Try.func51, Try.ntmps51
    go_wp2_with (go_at_call 96; (with_reducible refine (R.out _).mono ?_); rintro e w1 ⟨rfl, rfl⟩)
    go_ret
    exact DPost.refl HH.out
set_option maxRecDepth 100000 in
set_option maxHeartbeats 1600000 in
theorem disk_Cut (g : Nat) (D : Dk) (b : List (Option Nat)) (f a : Int) (w : World) (h : DP w b g D) (hok : D.ok) (hct : D.count ≤ 4000000000000000000) (hws : D.waits.length ≤ 1000000000) :
    Calls Try.prog 53 #[.pointer (some ⟨g, 0, none⟩), .int .i64 f, .int .i64 a] w (DPost w b g (D.cutD f a) (.int .i64 (D.cutE f a))) := by
  have R := Lib.hid (fun w1 => disk_right f a 0 w1)
  have HH := Lib.hid h
  by_cases hf : fitsF f a 0
  · rw [fitsB_yes hf] at R
    have T := Lib.hid (fun w1 (h1 : DP w1 b g D) => disk_change g D b ⟨f.toNat, a.toNat, ⟨#[]⟩, true⟩ w1 h1 hok hct hws ⟨by show f.toNat < 2; have := hf.1; have := hf.2.1; omega, by show a.toNat ≤ _; have := hf.2.2.2.2.1; omega, by show a.toNat + 0 ≤ _; obtain ⟨h1, h2, h3, h4, h5, h6⟩ := hf; omega, fun _ => rfl⟩)
    have E := Lib.hid (show D.cutD f a = D.change ⟨f.toNat, a.toNat, ⟨#[]⟩, true⟩ ∧ D.cutE f a = D.turnE from ⟨if_pos hf, if_pos hf⟩)
    rw [E.out.1, E.out.2]
    unfold chVal at T
    simp only at T
    rw [show ((f.toNat : Nat) : Int) = f from Int.toNat_of_nonneg hf.1, show ((a.toNat : Nat) : Int) = a from Int.toNat_of_nonneg hf.2.2.1] at T
    obtain ⟨x, hx⟩ : ∃ x, D.turnE = x := ⟨_, rfl⟩
    obtain ⟨D', hD'⟩ : ∃ x, D.change ⟨f.toNat, a.toNat, ⟨#[]⟩, true⟩ = x := ⟨_, rfl⟩
    rw [hx, hD'] at T ⊢
    clear hx hD' hok hct hws h hf
    go_enter Try.func53, Try.ntmps53
    go_wp2_with (first | (go_at_call 96; (with_reducible refine (R.out _).mono ?_); rintro e w1 ⟨rfl, rfl⟩) | (go_at_call 98; (with_reducible refine (T.out _ HH.out).mono ?_); rintro e w2 ⟨rfl, hp⟩))
    go_ret
    exact ⟨rfl, hp⟩
  · rw [fitsB_no hf] at R
    have E := Lib.hid (show D.cutD f a = D ∧ D.cutE f a = 1 from ⟨if_neg hf, if_neg hf⟩)
    rw [E.out.1, E.out.2]
    clear hf h
    go_enter Try.func53, Try.ntmps53
    go_wp2_with (go_at_call 96; (with_reducible refine (R.out _).mono ?_); rintro e w1 ⟨rfl, rfl⟩)
    go_ret
    exact DPost.refl HH.out

end Go.Proofs.Ytjihboddejaelaa

/-
  The methods of disk.Disk (3): Sync.
-/
namespace Go.Proofs.Ytjihboddejaelaa
set_option linter.unusedVariables false
set_option linter.unusedSimpArgs false
open Go.RowKit
open Go.BigFrame
set_option linter.unusedVariables false
set_option linter.unusedSimpArgs false

/-- the slice value '.slice A n c' reads as these changes -/
def CS (w : World) (A : Option Addr) (n : Nat) (ws : List Ch) : Prop :=
  ws.length = n ∧ (0 < n → ∃ b off, A = some ⟨b, off, none⟩ ∧ b < w.heap.size ∧ ∀ i c, ws[i]? = some c →
    w.cell? ⟨b, off + i * 4, none⟩ = some (.int .i64 c.file) ∧ w.cell? ⟨b, off + i * 4 + 1, none⟩ = some (.int .i64 c.at_) ∧ w.cell? ⟨b, off + i * 4 + 2, none⟩ = some (.string c.text) ∧ w.cell? ⟨b, off + i * 4 + 3, none⟩ = some (.bool c.cut))
theorem CS.keep {w w' : World} {A : Option Addr} {n : Nat} {ws : List Ch} (h : CS w A n ws) (hb : Below w.heap.size w w') : CS w' A n ws :=
  ⟨h.1, fun hn => by
    obtain ⟨b, off, hA, hl, hc⟩ := h.2 hn
    refine ⟨b, off, hA, Nat.lt_of_lt_of_le hl hb.size, fun i v hv => ?_⟩
    obtain ⟨c0, c1, c2, c3⟩ := hc i v hv
    exact ⟨(hb.cell hl).trans c0, (hb.cell hl).trans c1, (hb.cell hl).trans c2, (hb.cell hl).trans c3⟩⟩
theorem chCells_length : ∀ ws : List Ch, (chCells ws).length = ws.length * 4
  | [] => rfl
  | c :: ws => by
    have := chCells_length ws
    simp only [chCells, List.flatMap_cons, List.length_append, List.length_cons] at this ⊢
    rw [this]; simp only [Ch.cells, List.length_cons, List.length_nil]; omega
theorem chCells_get : ∀ (ws : List Ch) (j : Nat), (chCells ws)[j]? = ws[j / 4]?.bind fun v => v.cells[j % 4]?
  | [], j => by simp [chCells]
  | v :: ws, j => by
    have hs : chCells (v :: ws) = v.cells ++ chCells ws := by simp [chCells]
    rw [hs]
    by_cases h : j < 4
    · rw [List.getElem?_append_left (by simpa [Ch.cells] using h), Nat.div_eq_of_lt h, Nat.mod_eq_of_lt h]
      simp
    · rw [List.getElem?_append_right (by simp [Ch.cells]; omega), show v.cells.length = 4 from rfl, chCells_get ws (j - 4)]
      have e1 : j / 4 = (j - 4) / 4 + 1 := by omega
      have e2 : j % 4 = (j - 4) % 4 := by omega
      rw [e1, e2]
      simp
theorem CS.of_own {w : World} {b : Nat} {e : TypeId} {v : Value} {n : Nat} {ws : List Ch} (h : w.ownsRow b e 4 v n (chCells ws)) : ∃ A c, v = .slice A n c ∧ n ≤ c ∧ CS w A n ws := by
  have hl : ws.length = n := by have := h.1; rw [chCells_length] at this; omega
  rcases h.2 with ⟨rfl, h0⟩ | ⟨g, cap, cur, rfl, hb, hg, hn, _⟩
  · subst h0
    exact ⟨none, 0, rfl, Nat.le_refl _, hl, fun h => absurd h (by omega)⟩
  · refine ⟨_, _, rfl, hn, hl, fun _ => ⟨g, 0, rfl, (Array.getElem?_eq_some_iff.1 hg).1, fun i c hc => ?_⟩⟩
    have gg : ∀ r u, r < 4 → c.cells[r]? = some u → w.cell? ⟨g, 0 + (i * 4 + r), none⟩ = some u := fun r u hr hu => by
      have := h.cells (g := g) rfl (i * 4 + r) u (by rw [chCells_get, show (i * 4 + r) / 4 = i by omega, show (i * 4 + r) % 4 = r by omega, hc]; exact hu)
      rw [addr_add] at this; exact this
    refine ⟨gg 0 _ (by omega) rfl, ?_, ?_, ?_⟩
    · have := gg 1 _ (by omega) rfl; simpa [Nat.add_assoc] using this
    · have := gg 2 _ (by omega) rfl; simpa [Nat.add_assoc] using this
    · have := gg 3 _ (by omega) rfl; simpa [Nat.add_assoc] using this
theorem fresh_own {A : Option Addr} {n c n' c' m : Nat} (hat : Value.ownBlock (.slice A n c) = Value.ownBlock (.slice none 0 0) ∨ Value.ownBlock (.slice A n c) = some m) : ∀ k, Value.ownBlock (.slice A n' c') = some k → m ≤ k := fun k hk => by
  cases A with
  | none => cases hk
  | some a =>
    rcases hat with e | e
    · cases e
    · have h2 : some a.block = some k := hk
      have h3 : some a.block = some m := e
      rw [h2] at h3; cases h3; exact Nat.le_refl _
theorem heap_alloc_new2 (w : World) (o o2 : Obj) : ((w.alloc o).alloc o2).heap[w.heap.size + 1]? = some o2 := by
  have := heap_alloc_new (w.alloc o) o2
  rwa [World.size_alloc] at this
def restL (ws : List Ch) (f : Nat) : List Ch := ws.filter (fun c => decide (c.file ≠ f))
theorem restL_yes {ws : List Ch} {i f : Nat} (hi : i < ws.length) (h : ws[i].file ≠ f) : restL (ws.take (i + 1)) f = restL (ws.take i) f ++ [ws[i]] := by
  unfold restL
  rw [List.take_succ_eq_append_getElem hi, List.filter_append, List.filter_cons_of_pos (by simpa using h)]; rfl
theorem restL_no {ws : List Ch} {i f : Nat} (hi : i < ws.length) (h : ws[i].file = f) : restL (ws.take (i + 1)) f = restL (ws.take i) f := by
  unfold restL
  rw [List.take_succ_eq_append_getElem hi, List.filter_append, List.filter_cons_of_neg (by simpa using h)]; simp
theorem restL_len (ws : List Ch) (f : Nat) : (restL ws f).length ≤ ws.length := List.length_filter_le _ _

set_option maxRecDepth 100000 in
set_option maxHeartbeats 3200000 in
theorem disk_Sync (g : Nat) (D : Dk) (b : List (Option Nat)) (f : Int) (w : World) (h : DP w b g D) (hok : D.ok) (hct : D.count ≤ 4000000000000000000) (hws : D.waits.length ≤ 1000000000) :
    Calls Try.prog 57 #[.pointer (some ⟨g, 0, none⟩), .int .i64 f] w (DPost w b g (D.sync f) (.int .i64 (D.syncE f))) := by
  obtain ⟨i0, hi, hz0, hz1, hz2⟩ := info_parts infoByte
  have R := Lib.hid (fun w1 => disk_right f 0 0 w1)
  have HH := Lib.hid h
  have T := Lib.hid (fun w1 (h1 : DP w1 b g D) => disk_turn g D b w1 h1 hok hct)
  have OK := Lib.hid hok
  by_cases hf : 0 ≤ f ∧ f < 2
  · rw [fitsB_yes ⟨hf.1, hf.2, by omega, by omega, by omega, by omega⟩] at R
    obtain ⟨F, rfl⟩ : ∃ F : Nat, f = F := ⟨f.toNat, by omega⟩
    obtain ⟨hf1, hf2⟩ := hf
    by_cases hst : D.stops
    · have E := Lib.hid (show D.turnE = 2 ∧ D.sync F = D.turn ∧ D.syncE F = 2 from ⟨if_pos hst, by unfold Dk.sync; rw [if_pos ⟨hf1, hf2⟩, if_pos hst], by unfold Dk.syncE; rw [if_pos ⟨hf1, hf2⟩]; exact if_pos hst⟩)
      rw [E.out.2.1, E.out.2.2]
      rw [E.out.1] at T
      clear hst h hok hct
      go_enter Try.func57, Try.ntmps57
      go_wp2_with (first | (go_at_call 96; (with_reducible refine (R.out _).mono ?_); rintro e w1 ⟨rfl, rfl⟩) | (go_at_call 100; (with_reducible refine (T.out _ HH.out).mono ?_); rintro e w2 ⟨rfl, hp⟩))
      go_ret
      exact ⟨rfl, hp⟩
    · have E := Lib.hid (show D.turnE = 0 ∧ D.syncE F = 0 from ⟨if_neg hst, by unfold Dk.syncE; rw [if_pos ⟨hf1, hf2⟩]; exact if_neg hst⟩)
      have ES := Lib.hid (show D.sync F = D.syncT F by unfold Dk.sync; rw [if_pos ⟨hf1, hf2⟩, if_neg hst]; rfl)
      have ET := Lib.hid (show D.turn = { D with fails := if 0 < D.fails then D.fails - 1 else D.fails, count := D.count + 1 } from if_neg hst)
      have EV := Lib.hid (fun k => Dk.syncT_seen D F k (by omega))
      have LS := Lib.hid (hok.seen)
      rw [E.out.2, ES.out]
      rw [E.out.1] at T
      clear hst h hok hct
      rcases (show F = 0 ∨ F = 1 by omega) with rfl | rfl
      · rw [show ((0 : Nat) : Int) = 0 from rfl] at R ⊢
        go_enter Try.func57, Try.ntmps57
        go_upto_region 6 with (first | (go_at_call 96; (with_reducible refine (R.out _).mono ?_); rintro e w1 ⟨rfl, rfl⟩) | (go_at_call 100; (with_reducible refine (T.out _ HH.out).mono ?_); rintro e w1 ⟨rfl, b1, hd1, ht1⟩))
        have HD1 := Lib.hid (show DPx w1 b1 g D.l0 (D.seen 0) D.l1 (D.seen 1) D.waits D.turn.fails D.turn.down D.turn.count by
          have h2 := hd1
          rw [ET.out] at h2 ⊢
          exact h2)
        have HT1 := Lib.hid ht1
        clear hd1 ht1
        go_cut [2] (fun s2 wx => ∃ b2, DPx wx b2 g (D.seen 0) (D.seen 0) D.l1 (D.seen 1) D.waits D.turn.fails D.turn.down D.turn.count ∧ Turn b b2 w wx)
        case first =>
          obtain ⟨v0, v1, v2, v3, v4, rfl, hO⟩ := HD1.out
          have HO := Lib.hid hO
          obtain ⟨c0, c1, c2, c3, c4, c5, c6, c7⟩ := hO.has.cells8
          have cf := hO.has.frozen
          have cz := hO.has.lt
          obtain ⟨As, cs, hvs, _, hbs⟩ := BS.of_own (l := D.seen 0) (hO.own 1 rfl)
          rw [show v1 = .slice As (D.seen 0).length cs from hvs] at c1
          have HBS := Lib.hid hbs
          clear hO hvs hbs
          have G1 := Lib.hid (show 0 + (D.seen 0).length ≤ maxLen by have := LS.out 0; unfold maxLen; omega)
          have G2 := Lib.hid (show (0 + (D.seen 0).length) * 1 ≤ 140737488355328 by have := LS.out 0; omega)
          go_region_law
            (refine step_append_src (by rfl) _ _ _ _ (by rfl) 0 5 i0 _ 1 1 Try.underlying81 hi hz0 hz1 hz2 zeroByte1 (by omega) (.slice none 0 0) 0 [] (by rfl) (World.ownsRow_nil _ _ _ _) _ (D.seen 0).length (u8s (D.seen 0)) (by rfl) ((HBS.out.keep (Below.refl _ _).drew).src Try.underlying81) G1.out G2.out (Nat.zero_le _) ?_; intro A5 k5 w5 hown5 hgrow hat; have HR := Lib.hid ((HO.out.below (Below.refl _ _).drew).row 0 (r := rowB v0 D.l0) (r' := rowB (.slice A5 (D.seen 0).length k5) (D.seen 0)) rfl (grownBy_weak hgrow) (by have h9 := hown5; rw [Nat.zero_add] at h9; exact h9) (.inr (fresh_own hat))); have gf5 := HR.out.1.has.frozen; have gc5 := HR.out.1.has.cells8; obtain ⟨g0, g1, g2, g3, g4, g5, g6, g7⟩ := gc5; have gz5 := HR.out.1.has.lt)
          all_goals
            go_wp2_with fail
            go_meet
            exact ⟨_, ⟨_, _, _, _, _, rfl, HR.out.1.set 0 _⟩, HT1.out.trans ((Turn.below _ (Below.refl _ _).drew).trans (HR.out.2.trans (Turn.set _ _ 0 _ _)))⟩
        case rest =>
          clear HD1 HT1
          obtain ⟨b2, hd2, ht2⟩ := hcut
          obtain ⟨v0, v1, v2, v3, v4, rfl, hO⟩ := hd2
          have HO := Lib.hid hO
          have HT2 := Lib.hid ht2
          obtain ⟨A4, k4, rfl, hnc, hcs⟩ := CS.of_own (show wc.ownsRow 0 112 4 v4 D.waits.length (chCells D.waits) from hO.own 4 rfl)
          have HCS := Lib.hid hcs
          obtain ⟨c0, c1, c2, c3, c4, c5, c6, c7⟩ := hO.has.cells8
          have cf := hO.has.frozen
          have cz := hO.has.lt
          clear hO ht2 hcs
          obtain ⟨i1, hi1, hz3, hz4, hz5⟩ := info_parts infoCh
          go_wp2_with fail
          go_loopw [6, 36] (fun v6 v36 wr => ∃ i : Nat, i ≤ D.waits.length ∧ v36 = .int .i64 i ∧ wr.ownsRow wc.heap.size 112 4 v6 (restL (D.waits.take i) 0).length (chCells (restL (D.waits.take i) 0)) ∧ Below wc.heap.size wc wr) (fun _ v36 _ => D.waits.length - (intOf v36).toNat)
          case atStart => exact ⟨0, Nat.zero_le _, rfl, World.ownsRow_nil _ _ _ _, Below.refl _ _⟩
          case round =>
            obtain ⟨i, hin, rfl, ho, hb⟩ := hrel
            have HRO := Lib.hid ho
            have HB := Lib.hid hb
            clear ho hb
            by_cases hi2 : i < D.waits.length
            · obtain ⟨b4, o4, rfl, hb4, hcc⟩ := HCS.out.2 (by omega)
              obtain ⟨a0, a1, a2, a3⟩ := hcc i D.waits[i] (by simp [hi2])
              obtain ⟨wcl, wfl⟩ := bcell HB.out
              have d0 := (wcl b4 (o4 + i * 4) hb4).trans a0
              have d1 := (wcl b4 (o4 + i * 4 + 1) hb4).trans a1
              have d2 := (wcl b4 (o4 + i * 4 + 2) hb4).trans a2
              have d3 := (wcl b4 (o4 + i * 4 + 3) hb4).trans a3
              have zz : b4 < wr.heap.size := by have := HB.out.size; omega
              have RY := Lib.hid (restL_yes (ws := D.waits) (f := 0) hi2)
              have RN := Lib.hid (restL_no (ws := D.waits) (f := 0) hi2)
              have RL := Lib.hid (restL_len (D.waits.take i) 0)
              obtain ⟨x, hx⟩ : ∃ x, D.waits[i] = x := ⟨_, rfl⟩
              rw [hx] at d0 d1 d2 d3
              simp only [hx] at RY RN
              clear hcc a0 a1 a2 a3 wcl wfl hx
              have tl : (D.waits.take i).length ≤ 1000000000 := by rw [List.length_take]; omega
              by_cases hxf : x.file = 0
              · have RN2 := Lib.hid (RN.out hxf)
                have xe : ((x.file : Int) != 0) = false := by rw [bne_eq_false_iff_eq]; omega
                clear RY RN
                go_wp2_with fail
                go_roundw
                case rel => exact ⟨i + 1, by omega, by simp, by rw [RN2.out]; exact HRO.out.alloc _, HB.out.alloc HB.out.size _⟩
                case measure => simp [intOf]; omega
              · have RY2 := Lib.hid (RY.out hxf)
                have xe : ((x.file : Int) != 0) = true := by rw [bne_iff_ne]; omega
                have G1 := Lib.hid (show (restL (D.waits.take i) 0).length + 1 ≤ maxLen by have := RL.out; unfold maxLen; omega)
                have G2 := Lib.hid (show ((restL (D.waits.take i) 0).length + 1) * 40 ≤ 140737488355328 by have := RL.out; omega)
                clear RY RN
                go_wp2_with (at_builtin; (refine wpList_append_src _ rfl (.tmp 44) (.tmp 46) 85 85 rfl wc.heap.size 112 i1 _ 4 40 Try.underlying85 hi1 hz3 hz4 hz5 zeroCellsCh (by decide) _ (restL (D.waits.take i) 0).length _ rfl ((HRO.out.alloc _).alloc _) (.slice (some ⟨_, 0, none⟩) 1 1) 1 x.cells rfl (Src.ofSlice _ Try.underlying85 ⟨_, 0, none⟩ 1 1 x.cells rfl (World.news_of_block (heap_alloc_new2 _ _ _)) (chCells_one x)) G1.out G2.out (Nat.le_trans HB.out.size (by simp; omega)) ?_); intro v1 w6 hown1 hg1 _ hat1; have HO6 := Lib.hid hown1; have HB6 := Lib.hid ((((HB.out.alloc HB.out.size _).alloc (Nat.le_trans HB.out.size (by simp)) _).grown hg1 (Nat.le_trans HB.out.size (by simp; omega)) (fun k hk => (HRO.out.lt k hk).1))); clear hown1 hg1 hat1)
                go_roundw
                case rel => exact ⟨i + 1, by omega, by simp, by rw [RY2.out, chCells_snoc, List.length_append]; exact HO6.out, HB6.out⟩
                case measure => simp [intOf]; omega
            · obtain rfl : i = D.waits.length := by omega
              have HOr := Lib.hid (HO.out.below HB.out)
              clear c0 c1 c2 c3 c4 c5 c6 c7 cf cz
              obtain ⟨c0, c1, c2, c3, c4, c5, c6, c7⟩ := HOr.out.has.cells8
              have cf := HOr.out.has.frozen
              have cz := HOr.out.has.lt
              obtain ⟨A6, k6, rfl, _⟩ := own_form HRO.out
              have ER := Lib.hid (show restL (D.waits.take D.waits.length) 0 = (D.syncT 0).waits by rw [List.take_length]; rfl)
              rw [ER.out] at HRO ⊢
              go_wp2_with fail
              go_ret
              have hlow : ∀ k, Value.ownBlock (.slice A6 (D.syncT 0).waits.length k6) = some k → wc.heap.size ≤ k := fun k hk => (HRO.out.lt k hk).1
              refine ⟨rfl, _, ?_, ((HT2.out.trans (Turn.below _ HB.out)).swap 4 (r' := rowC (.slice A6 (D.syncT 0).waits.length k6) (D.syncT 0).waits) (fun k hk => Nat.le_trans HT2.out.size (hlow k hk))).trans (Turn.set _ _ 4 _ _)⟩
              unfold DP
              rw [EV.out 0 (by omega), EV.out 1 (by omega)]
              exact ⟨_, _, _, _, _, rfl, ((HOr.out.swap 4 (r' := rowC (.slice A6 (D.syncT 0).waits.length k6) (D.syncT 0).waits) rfl (own_mono0 HRO.out) (fun k hk h2 => by have h3 := hlow k hk; have h4 := HO.out.lt h2; omega)).set 4 _)⟩
      · rw [show ((1 : Nat) : Int) = 1 from rfl] at R ⊢
        go_enter Try.func57, Try.ntmps57
        go_upto_region 6 with (first | (go_at_call 96; (with_reducible refine (R.out _).mono ?_); rintro e w1 ⟨rfl, rfl⟩) | (go_at_call 100; (with_reducible refine (T.out _ HH.out).mono ?_); rintro e w1 ⟨rfl, b1, hd1, ht1⟩))
        have HD1 := Lib.hid (show DPx w1 b1 g D.l0 (D.seen 0) D.l1 (D.seen 1) D.waits D.turn.fails D.turn.down D.turn.count by
          have h2 := hd1
          rw [ET.out] at h2 ⊢
          exact h2)
        have HT1 := Lib.hid ht1
        clear hd1 ht1
        go_cut [2] (fun s2 wx => ∃ b2, DPx wx b2 g D.l0 (D.seen 0) (D.seen 1) (D.seen 1) D.waits D.turn.fails D.turn.down D.turn.count ∧ Turn b b2 w wx)
        case first =>
          obtain ⟨v0, v1, v2, v3, v4, rfl, hO⟩ := HD1.out
          have HO := Lib.hid hO
          obtain ⟨c0, c1, c2, c3, c4, c5, c6, c7⟩ := hO.has.cells8
          have cf := hO.has.frozen
          have cz := hO.has.lt
          obtain ⟨As, cs, hvs, _, hbs⟩ := BS.of_own (l := D.seen 1) (hO.own 3 rfl)
          rw [show v3 = .slice As (D.seen 1).length cs from hvs] at c3
          have HBS := Lib.hid hbs
          clear hO hvs hbs
          have G1 := Lib.hid (show 0 + (D.seen 1).length ≤ maxLen by have := LS.out 1; unfold maxLen; omega)
          have G2 := Lib.hid (show (0 + (D.seen 1).length) * 1 ≤ 140737488355328 by have := LS.out 1; omega)
          go_region_law
            (refine step_append_src (by rfl) _ _ _ _ (by rfl) 0 5 i0 _ 1 1 Try.underlying81 hi hz0 hz1 hz2 zeroByte1 (by omega) (.slice none 0 0) 0 [] (by rfl) (World.ownsRow_nil _ _ _ _) _ (D.seen 1).length (u8s (D.seen 1)) (by rfl) ((HBS.out.keep (Below.refl _ _).drew).src Try.underlying81) G1.out G2.out (Nat.zero_le _) ?_; intro A5 k5 w5 hown5 hgrow hat; have HR := Lib.hid ((HO.out.below (Below.refl _ _).drew).row 2 (r := rowB v2 D.l1) (r' := rowB (.slice A5 (D.seen 1).length k5) (D.seen 1)) rfl (grownBy_weak hgrow) (by have h9 := hown5; rw [Nat.zero_add] at h9; exact h9) (.inr (fresh_own hat))); have gf5 := HR.out.1.has.frozen; have gc5 := HR.out.1.has.cells8; obtain ⟨g0, g1, g2, g3, g4, g5, g6, g7⟩ := gc5; have gz5 := HR.out.1.has.lt)
          all_goals
            go_wp2_with fail
            go_meet
            exact ⟨_, ⟨_, _, _, _, _, rfl, HR.out.1.set 2 _⟩, HT1.out.trans ((Turn.below _ (Below.refl _ _).drew).trans (HR.out.2.trans (Turn.set _ _ 2 _ _)))⟩
        case rest =>
          clear HD1 HT1
          obtain ⟨b2, hd2, ht2⟩ := hcut
          obtain ⟨v0, v1, v2, v3, v4, rfl, hO⟩ := hd2
          have HO := Lib.hid hO
          have HT2 := Lib.hid ht2
          obtain ⟨A4, k4, rfl, hnc, hcs⟩ := CS.of_own (show wc.ownsRow 0 112 4 v4 D.waits.length (chCells D.waits) from hO.own 4 rfl)
          have HCS := Lib.hid hcs
          obtain ⟨c0, c1, c2, c3, c4, c5, c6, c7⟩ := hO.has.cells8
          have cf := hO.has.frozen
          have cz := hO.has.lt
          clear hO ht2 hcs
          obtain ⟨i1, hi1, hz3, hz4, hz5⟩ := info_parts infoCh
          go_wp2_with fail
          go_loopw [6, 36] (fun v6 v36 wr => ∃ i : Nat, i ≤ D.waits.length ∧ v36 = .int .i64 i ∧ wr.ownsRow wc.heap.size 112 4 v6 (restL (D.waits.take i) 1).length (chCells (restL (D.waits.take i) 1)) ∧ Below wc.heap.size wc wr) (fun _ v36 _ => D.waits.length - (intOf v36).toNat)
          case atStart => exact ⟨0, Nat.zero_le _, rfl, World.ownsRow_nil _ _ _ _, Below.refl _ _⟩
          case round =>
            obtain ⟨i, hin, rfl, ho, hb⟩ := hrel
            have HRO := Lib.hid ho
            have HB := Lib.hid hb
            clear ho hb
            by_cases hi2 : i < D.waits.length
            · obtain ⟨b4, o4, rfl, hb4, hcc⟩ := HCS.out.2 (by omega)
              obtain ⟨a0, a1, a2, a3⟩ := hcc i D.waits[i] (by simp [hi2])
              obtain ⟨wcl, wfl⟩ := bcell HB.out
              have d0 := (wcl b4 (o4 + i * 4) hb4).trans a0
              have d1 := (wcl b4 (o4 + i * 4 + 1) hb4).trans a1
              have d2 := (wcl b4 (o4 + i * 4 + 2) hb4).trans a2
              have d3 := (wcl b4 (o4 + i * 4 + 3) hb4).trans a3
              have zz : b4 < wr.heap.size := by have := HB.out.size; omega
              have RY := Lib.hid (restL_yes (ws := D.waits) (f := 1) hi2)
              have RN := Lib.hid (restL_no (ws := D.waits) (f := 1) hi2)
              have RL := Lib.hid (restL_len (D.waits.take i) 1)
              obtain ⟨x, hx⟩ : ∃ x, D.waits[i] = x := ⟨_, rfl⟩
              rw [hx] at d0 d1 d2 d3
              simp only [hx] at RY RN
              clear hcc a0 a1 a2 a3 wcl wfl hx
              have tl : (D.waits.take i).length ≤ 1000000000 := by rw [List.length_take]; omega
              by_cases hxf : x.file = 1
              · have RN2 := Lib.hid (RN.out hxf)
                have xe : ((x.file : Int) != 1) = false := by rw [bne_eq_false_iff_eq]; omega
                clear RY RN
                go_wp2_with fail
                go_roundw
                case rel => exact ⟨i + 1, by omega, by simp, by rw [RN2.out]; exact HRO.out.alloc _, HB.out.alloc HB.out.size _⟩
                case measure => simp [intOf]; omega
              · have RY2 := Lib.hid (RY.out hxf)
                have xe : ((x.file : Int) != 1) = true := by rw [bne_iff_ne]; omega
                have G1 := Lib.hid (show (restL (D.waits.take i) 1).length + 1 ≤ maxLen by have := RL.out; unfold maxLen; omega)
                have G2 := Lib.hid (show ((restL (D.waits.take i) 1).length + 1) * 40 ≤ 140737488355328 by have := RL.out; omega)
                clear RY RN
                go_wp2_with (at_builtin; (refine wpList_append_src _ rfl (.tmp 44) (.tmp 46) 85 85 rfl wc.heap.size 112 i1 _ 4 40 Try.underlying85 hi1 hz3 hz4 hz5 zeroCellsCh (by decide) _ (restL (D.waits.take i) 1).length _ rfl ((HRO.out.alloc _).alloc _) (.slice (some ⟨_, 0, none⟩) 1 1) 1 x.cells rfl (Src.ofSlice _ Try.underlying85 ⟨_, 0, none⟩ 1 1 x.cells rfl (World.news_of_block (heap_alloc_new2 _ _ _)) (chCells_one x)) G1.out G2.out (Nat.le_trans HB.out.size (by simp; omega)) ?_); intro v1 w6 hown1 hg1 _ hat1; have HO6 := Lib.hid hown1; have HB6 := Lib.hid ((((HB.out.alloc HB.out.size _).alloc (Nat.le_trans HB.out.size (by simp)) _).grown hg1 (Nat.le_trans HB.out.size (by simp; omega)) (fun k hk => (HRO.out.lt k hk).1))); clear hown1 hg1 hat1)
                go_roundw
                case rel => exact ⟨i + 1, by omega, by simp, by rw [RY2.out, chCells_snoc, List.length_append]; exact HO6.out, HB6.out⟩
                case measure => simp [intOf]; omega
            · obtain rfl : i = D.waits.length := by omega
              have HOr := Lib.hid (HO.out.below HB.out)
              clear c0 c1 c2 c3 c4 c5 c6 c7 cf cz
              obtain ⟨c0, c1, c2, c3, c4, c5, c6, c7⟩ := HOr.out.has.cells8
              have cf := HOr.out.has.frozen
              have cz := HOr.out.has.lt
              obtain ⟨A6, k6, rfl, _⟩ := own_form HRO.out
              have ER := Lib.hid (show restL (D.waits.take D.waits.length) 1 = (D.syncT 1).waits by rw [List.take_length]; rfl)
              rw [ER.out] at HRO ⊢
              go_wp2_with fail
              go_ret
              have hlow : ∀ k, Value.ownBlock (.slice A6 (D.syncT 1).waits.length k6) = some k → wc.heap.size ≤ k := fun k hk => (HRO.out.lt k hk).1
              refine ⟨rfl, _, ?_, ((HT2.out.trans (Turn.below _ HB.out)).swap 4 (r' := rowC (.slice A6 (D.syncT 1).waits.length k6) (D.syncT 1).waits) (fun k hk => Nat.le_trans HT2.out.size (hlow k hk))).trans (Turn.set _ _ 4 _ _)⟩
              unfold DP
              rw [EV.out 0 (by omega), EV.out 1 (by omega)]
              exact ⟨_, _, _, _, _, rfl, ((HOr.out.swap 4 (r' := rowC (.slice A6 (D.syncT 1).waits.length k6) (D.syncT 1).waits) rfl (own_mono0 HRO.out) (fun k hk h2 => by have h3 := hlow k hk; have h4 := HO.out.lt h2; omega)).set 4 _)⟩
  · rw [fitsB_no (fun h => hf ⟨h.1, h.2.1⟩)] at R
    have E := Lib.hid (show D.sync f = D ∧ D.syncE f = 1 from ⟨if_neg hf, if_neg hf⟩)
    rw [E.out.1, E.out.2]
    clear hf h
    go_enter Try.func57, Try.ntmps57
    go_wp2_with (go_at_call 96; (with_reducible refine (R.out _).mono ?_); rintro e w1 ⟨rfl, rfl⟩)
    go_ret
    exact DPost.refl HH.out

end Go.Proofs.Ytjihboddejaelaa

/-
  A log in memory (wal.Log): its own block, its two maps, its disk; tell and the functions it hands on.
-/
namespace Go.Proofs.Ytjihboddejaelaa
set_option linter.unusedVariables false
set_option linter.unusedSimpArgs false
open Go.RowKit
open Go.BigFrame
open Go.Maps
set_option linter.unusedVariables false
set_option linter.unusedSimpArgs false

/-- a log as its cells tell it: f1, f2: where pages lie, now and by the last commit -/
structure Rw where
  D : Dk
  nf : Nat
  np : Nat
  f1 : Int → Nat
  kf : Nat
  kp : Nat
  f2 : Int → Nat
  slot : Nat
  number : Nat
def rwCells (gd m1 m2 : Nat) (R : Rw) : Array Value := #[.pointer (some ⟨gd, 0, none⟩), .int .i64 R.nf, .int .i64 R.np, .map (some m1), .int .i64 R.kf, .int .i64 R.kp, .map (some m2), .int .i64 R.slot, .int .i64 R.number]
def lb (g m1 m2 : Nat) : List (Option Nat) := [some g, some m1, some m2]
/-- the log R lies at block g, its disk at gd in blocks b -/
structure LR (w : World) (b : List (Option Nat)) (gd g m1 m2 : Nat) (R : Rw) : Prop where
  disk : DP w b gd R.D
  has : Has w g 106 (rwCells gd m1 m2 R)
  map1 : MP w m1 R.nf R.f1
  map2 : MP w m2 R.kf R.f2
  ne : m1 ≠ m2
  apart : Disj b (lb g m1 m2)
theorem has_map {w : World} {g m : Nat} {t : TypeId} {cs : Array Value} {n : Nat} {f : Int → Nat} (h : Has w g t cs) (hm : MP w m n f) : g ≠ m := by
  rintro rfl
  obtain ⟨D, ⟨es, cl, h1, _⟩, _⟩ := hm
  unfold Has at h
  rw [h] at h1; cases h1
theorem DP.has {w : World} {b : List (Option Nat)} {g : Nat} {D : Dk} (h : DP w b g D) : some g ∈ b := DPx.has h

theorem MP.turn {w w' : World} {b b' : List (Option Nat)} {m n : Nat} {f : Int → Nat} (h : MP w m n f) (ht : Turn b b' w w') (hg : some m ∉ b) : MP w' m n f := h.block (ht.block m h.lt hg)
theorem DP.turn {w w' : World} {b c c' : List (Option Nat)} {g : Nat} {D : Dk} (h : DP w b g D) (ht : Turn c c' w w') (hd : Disj c b) : DP w' b g D := by
  obtain ⟨v0, v1, v2, v3, v4, rfl, h2⟩ := h
  exact ⟨v0, v1, v2, v3, v4, rfl, h2.far ht hd⟩
theorem DP.disj {w w' : World} {b c c' : List (Option Nat)} {g : Nat} {D : Dk} (h : DP w b g D) (ht : Turn c c' w w') (hd : Disj c b) : Disj c' b := by
  obtain ⟨v0, v1, v2, v3, v4, rfl, h2⟩ := h
  exact h2.disj ht hd
theorem Turn.left {w w' : World} {b b' : List (Option Nat)} (c : List (Option Nat)) (h : Turn b b' w w') : Turn (b ++ c) (b' ++ c) w w' :=
  ⟨h.os, h.tape, h.output, h.size, fun k hk hn => h.block k hk (fun h2 => hn (List.mem_append_left _ h2)), fun k hk => by
    rcases List.mem_append.1 hk with h2 | h2
    · exact (h.new k h2).imp (List.mem_append_left _) id
    · exact .inl (List.mem_append_right _ h2)⟩
theorem Turn.right {w w' : World} {b b' : List (Option Nat)} (c : List (Option Nat)) (h : Turn b b' w w') : Turn (c ++ b) (c ++ b') w w' :=
  ⟨h.os, h.tape, h.output, h.size, fun k hk hn => h.block k hk (fun h2 => hn (List.mem_append_right _ h2)), fun k hk => by
    rcases List.mem_append.1 hk with h2 | h2
    · exact .inl (List.mem_append_left _ h2)
    · exact (h.new k h2).imp (List.mem_append_right _) id⟩
theorem Turn.wide {w w' : World} {b b' c c' : List (Option Nat)} (h : Turn b b' w w') (h1 : ∀ k, some k ∈ b → some k ∈ c) (h2 : ∀ k, some k ∈ c' → some k ∈ b' ∨ some k ∈ c) : Turn c c' w w' :=
  ⟨h.os, h.tape, h.output, h.size, fun k hk hn => h.block k hk (fun h3 => hn (h1 k h3)), fun k hk => by
    rcases h2 k hk with h3 | h3
    · exact (h.new k h3).imp (h1 k) id
    · exact .inl h3⟩
theorem Turn.grown {w w' : World} {m : Nat} (h : w.grownBy w' (some m)) : Turn [some m] [some m] w w' :=
  ⟨h.os, h.tape, h.output, h.size, fun k hk hn => h.block k hk (fun e => hn (by rw [e]; exact List.mem_singleton.2 rfl)), fun k hk => .inl hk⟩
theorem mem_lb {g m1 m2 k : Nat} : some k ∈ lb g m1 m2 ↔ k = g ∨ k = m1 ∨ k = m2 := by
  simp [lb]
section
variable {w w' : World} {b b' : List (Option Nat)} {gd g m1 m2 : Nat} {R : Rw}
theorem LR.ne1 (h : LR w b gd g m1 m2 R) : g ≠ m1 := has_map h.has h.map1
theorem LR.ne2 (h : LR w b gd g m1 m2 R) : g ≠ m2 := has_map h.has h.map2
theorem LR.off (h : LR w b gd g m1 m2 R) : some g ∉ b ∧ some m1 ∉ b ∧ some m2 ∉ b :=
  ⟨fun h2 => h.apart g h2 (mem_lb.2 (.inl rfl)), fun h2 => h.apart m1 h2 (mem_lb.2 (.inr (.inl rfl))), fun h2 => h.apart m2 h2 (mem_lb.2 (.inr (.inr rfl)))⟩
theorem LR.lt (h : LR w b gd g m1 m2 R) {k : Nat} (hk : some k ∈ b ++ lb g m1 m2) : k < w.heap.size := by
  rcases List.mem_append.1 hk with h2 | h2
  · exact h.disk.lt h2
  · rcases mem_lb.1 h2 with rfl | rfl | rfl
    · exact h.has.lt
    · exact h.map1.lt
    · exact h.map2.lt
theorem LR.below (h : LR w b gd g m1 m2 R) (hb : Below w.heap.size w w') : LR w' b gd g m1 m2 R :=
  ⟨h.disk.below hb, h.has.belowS hb, h.map1.below hb, h.map2.below hb, h.ne, h.apart⟩
/-- blocks that lie elsewhere have turned -/
theorem LR.far {c c' : List (Option Nat)} (h : LR w b gd g m1 m2 R) (ht : Turn c c' w w') (hd : Disj c (b ++ lb g m1 m2)) : LR w' b gd g m1 m2 R :=
  ⟨h.disk.turn ht fun k hk h2 => hd k hk (List.mem_append_left _ h2), h.has.turn ht fun h2 => hd g h2 (List.mem_append_right _ (mem_lb.2 (.inl rfl))),
    h.map1.turn ht fun h2 => hd m1 h2 (List.mem_append_right _ (mem_lb.2 (.inr (.inl rfl)))), h.map2.turn ht fun h2 => hd m2 h2 (List.mem_append_right _ (mem_lb.2 (.inr (.inr rfl)))), h.ne, h.apart⟩
/-- the disk has turned -/
theorem LR.onDisk {D' : Dk} (h : LR w b gd g m1 m2 R) (hD : DP w' b' gd D') (ht : Turn b b' w w') : LR w' b' gd g m1 m2 { R with D := D' } ∧ Turn (b ++ lb g m1 m2) (b' ++ lb g m1 m2) w w' := by
  obtain ⟨h1, h2, h3⟩ := h.off
  refine ⟨⟨hD, h.has.turn ht h1, h.map1.turn ht h2, h.map2.turn ht h3, h.ne, fun k hk h4 => ?_⟩, ht.left _⟩
  rcases ht.new k hk with h5 | h5
  · exact h.apart k h5 h4
  · have := h.lt (List.mem_append_right b h4); omega
theorem Turn.cell (g i : Nat) (u : Value) (w : World) : Turn [some g] [some g] w (w.setCell ⟨g, i, none⟩ u) := Turn.grown (grownBy_setCell ⟨g, i, none⟩ u)
/-- a cell of the log's block is stored -/
theorem LR.set (h : LR w b gd g m1 m2 R) (i : Nat) (u : Value) (R' : Rw) (hc : (rwCells gd m1 m2 R).setIfInBounds i u = rwCells gd m1 m2 R') (hD : R'.D = R.D) (h1 : MP w m1 R'.nf R'.f1) (h2 : MP w m2 R'.kf R'.f2) :
    LR (w.setCell ⟨g, i, none⟩ u) b gd g m1 m2 R' ∧ Turn (b ++ lb g m1 m2) (b ++ lb g m1 m2) w (w.setCell ⟨g, i, none⟩ u) := by
  have ht := Turn.cell g i u w
  refine ⟨⟨hD ▸ h.disk.turn ht fun k hk h2 => ?_, hc ▸ h.has.set i u, h1.turn ht fun h3 => ?_, h2.turn ht fun h3 => ?_, h.ne, h.apart⟩, ht.wide (fun k hk => ?_) (fun k hk => .inr hk)⟩
  · have : k = g := by simpa using hk
    subst this
    exact h.off.1 h2
  · exact h.ne1 (by simpa using h3 : m1 = g).symm
  · exact h.ne2 (by simpa using h3 : m2 = g).symm
  · have : k = g := by simpa using hk
    exact List.mem_append_right _ (mem_lb.2 (.inl this))
end

end Go.Proofs.Ytjihboddejaelaa

/-
  tell of package wal: what it hands on to done.
-/
namespace Go.Proofs.Ytjihboddejaelaa
set_option linter.unusedVariables false
set_option linter.unusedSimpArgs false
open Go.RowKit
open Go.BigFrame
open Go.Maps
set_option linter.unusedVariables false
set_option linter.unusedSimpArgs false

/-- the disk may bear some more operations -/
structure Fit (D : Dk) (k : Nat) : Prop where
  ok : D.ok
  count : D.count + k ≤ 4000000000000000000
  waits : D.waits.length + k ≤ 1000000000
/-- what tell's functions captured -/
structure TellBox (w : World) (g bl bs bn bf bp : Nat) (slot n f p : Nat) : Prop where
  l : Has w bl 36 #[.pointer (some ⟨g, 0, none⟩)]
  s : Has w bs 3 #[.int .i64 slot]
  n : Has w bn 3 #[.int .i64 n]
  f : Has w bf 3 #[.int .i64 f]
  p : Has w bp 3 #[.int .i64 p]
theorem TellBox.below {w w' : World} {g bl bs bn bf bp slot n f p : Nat} (h : TellBox w g bl bs bn bf bp slot n f p) (hb : Below w.heap.size w w') : TellBox w' g bl bs bn bf bp slot n f p :=
  ⟨h.l.belowS hb, h.s.belowS hb, h.n.belowS hb, h.f.belowS hb, h.p.belowS hb⟩
theorem TellBox.cells {w : World} {g bl bs bn bf bp slot n f p : Nat} (h : TellBox w g bl bs bn bf bp slot n f p) :
    w.cell? ⟨bl, 0, none⟩ = some (.pointer (some ⟨g, 0, none⟩)) ∧ w.cell? ⟨bs, 0, none⟩ = some (.int .i64 slot) ∧ w.cell? ⟨bn, 0, none⟩ = some (.int .i64 n) ∧ w.cell? ⟨bf, 0, none⟩ = some (.int .i64 f) ∧ w.cell? ⟨bp, 0, none⟩ = some (.int .i64 p) :=
  ⟨h.l.cell 0, h.s.cell 0, h.n.cell 0, h.f.cell 0, h.p.cell 0⟩
def boxOff (bl bs bn bf bp : Nat) (b : List (Option Nat)) : Prop := some bl ∉ b ∧ some bs ∉ b ∧ some bn ∉ b ∧ some bf ∉ b ∧ some bp ∉ b
theorem TellBox.turn {w w' : World} {b b' : List (Option Nat)} {g bl bs bn bf bp slot n f p : Nat} (h : TellBox w g bl bs bn bf bp slot n f p) (ht : Turn b b' w w') (ho : boxOff bl bs bn bf bp b) : TellBox w' g bl bs bn bf bp slot n f p :=
  ⟨h.l.turn ht ho.1, h.s.turn ht ho.2.1, h.n.turn ht ho.2.2.1, h.f.turn ht ho.2.2.2.1, h.p.turn ht ho.2.2.2.2⟩
theorem LR.cell0 {w : World} {b : List (Option Nat)} {gd g m1 m2 : Nat} {R : Rw} (h : LR w b gd g m1 m2 R) : w.cell? ⟨g, 0, none⟩ = some (.pointer (some ⟨gd, 0, none⟩)) := h.has.cell 0

set_option maxRecDepth 100000 in
set_option maxHeartbeats 3200000 in
theorem wal_tell1 (b : List (Option Nat)) (gd g m1 m2 : Nat) (R : Rw) (bl bs bn bf bp slot n f p : Nat) (w : World) (h : LR w b gd g m1 m2 R) (hx : TellBox w g bl bs bn bf bp slot n f p) (ho : boxOff bl bs bn bf bp b) (hfit : Fit R.D 1) (hs : slot < 2) (hn : n ≤ 4611686018427387904) (hf : f ≤ 4611686018427387904) (hp : p ≤ 4611686018427387904) :
    Calls Try.prog 108 #[.pointer (some ⟨bl, 0, none⟩), .pointer (some ⟨bs, 0, none⟩), .pointer (some ⟨bn, 0, none⟩), .pointer (some ⟨bf, 0, none⟩), .pointer (some ⟨bp, 0, none⟩)] w
      (DPost w b gd (R.D.write 1 (16 + 24 * slot : Nat) (bsOf (slotL n f p))) (.int .i64 (R.D.writeE 1 (16 + 24 * slot : Nat) (bsOf (slotL n f p))))) := by
  have ST := Lib.hid (wal_slotText n f p hn hf hp)
  have TP := Lib.hid (fun b1 w1 (h1 : DP w1 b1 gd R.D) => disk_Write gd R.D b1 1 (16 + 24 * slot : Nat) (bsOf (slotL n f p)) w1 h1 hfit.ok (by have := hfit.count; omega) (by have := hfit.waits; omega) (by rw [bsOf_size, slotL_len]; omega))
  obtain ⟨S, hS⟩ : ∃ S, bsOf (slotL n f p) = S := ⟨_, rfl⟩
  rw [hS] at ST TP ⊢
  obtain ⟨E, hE⟩ : ∃ x, R.D.writeE 1 (16 + 24 * slot : Nat) S = x := ⟨_, rfl⟩
  obtain ⟨D', hD⟩ : ∃ x, R.D.write 1 (16 + 24 * slot : Nat) S = x := ⟨_, rfl⟩
  rw [hE, hD] at TP ⊢
  have HL := Lib.hid (h.below (Below.refl _ _).drew)
  have HX := Lib.hid (hx.below (Below.refl _ _).drew)
  have HB := Lib.hid ((Below.refl w.heap.size w).drew)
  obtain ⟨x0, x1, x2, x3, x4⟩ := hx.cells
  have x5 := h.cell0
  have HO := Lib.hid ho
  clear hS hE hD h hx hfit ho
  obtain rfl | rfl : slot = 0 ∨ slot = 1 := by omega
  · rw [show ((0 : Nat) : Int) = 0 from rfl] at x1
    rw [show (((16 + 24 * 0 : Nat)) : Int) = IntKind.i64.wrap (16 + IntKind.i64.wrap 0) by decide] at TP
    go_enter Try.func108, Try.ntmps108
    go_wp2_with fail
    go_region_held3 (fun w' => w'.cell? ⟨bl, 0, none⟩ = some (.pointer (some ⟨g, 0, none⟩)) ∧ w'.cell? ⟨bs, 0, none⟩ = some (.int .i64 0) ∧ w'.cell? ⟨bn, 0, none⟩ = some (.int .i64 n) ∧ w'.cell? ⟨bf, 0, none⟩ = some (.int .i64 f) ∧ w'.cell? ⟨bp, 0, none⟩ = some (.int .i64 p) ∧ w'.cell? ⟨g, 0, none⟩ = some (.pointer (some ⟨gd, 0, none⟩))) (first | exact ⟨z0, z1, z2, z3, z4, z5⟩ | exact ⟨y0, y1, y2, y3, y4, y5⟩ | go_keep)
      (first | (go_at_call 106; (with_reducible refine (ST.out _).mono ?_); rintro e w1 ⟨rfl, hb1⟩; have H1 := Lib.hid (HL.out.below hb1); have HB1 := Lib.hid (bel_step HB.out hb1 HB.out.size); obtain ⟨y0, y1, y2, y3, y4⟩ := (HX.out.below hb1).cells; have y5 := H1.out.cell0) | (go_at_call 51; (with_reducible refine (TP.out _ _ H1.out.disk).mono ?_); rintro e w2 ⟨rfl, b2, hd2, ht2⟩; have HD := Lib.hid hd2; have HT := Lib.hid ht2; obtain ⟨z0, z1, z2, z3, z4⟩ := ((HX.out.below hb1).turn ht2 HO.out).cells; have z5 := (H1.out.onDisk hd2 ht2).1.cell0; clear hd2 ht2 hb1))
    go_wp2_with fail
    go_ret
    exact ⟨rfl, b2, HD.out, (Turn.below b HB1.out).trans HT.out⟩
  · rw [show ((1 : Nat) : Int) = 1 from rfl] at x1
    rw [show (((16 + 24 * 1 : Nat)) : Int) = IntKind.i64.wrap (16 + IntKind.i64.wrap 24) by decide] at TP
    go_enter Try.func108, Try.ntmps108
    go_wp2_with fail
    go_region_held3 (fun w' => w'.cell? ⟨bl, 0, none⟩ = some (.pointer (some ⟨g, 0, none⟩)) ∧ w'.cell? ⟨bs, 0, none⟩ = some (.int .i64 1) ∧ w'.cell? ⟨bn, 0, none⟩ = some (.int .i64 n) ∧ w'.cell? ⟨bf, 0, none⟩ = some (.int .i64 f) ∧ w'.cell? ⟨bp, 0, none⟩ = some (.int .i64 p) ∧ w'.cell? ⟨g, 0, none⟩ = some (.pointer (some ⟨gd, 0, none⟩))) (first | exact ⟨z0, z1, z2, z3, z4, z5⟩ | exact ⟨y0, y1, y2, y3, y4, y5⟩ | go_keep)
      (first | (go_at_call 106; (with_reducible refine (ST.out _).mono ?_); rintro e w1 ⟨rfl, hb1⟩; have H1 := Lib.hid (HL.out.below hb1); have HB1 := Lib.hid (bel_step HB.out hb1 HB.out.size); obtain ⟨y0, y1, y2, y3, y4⟩ := (HX.out.below hb1).cells; have y5 := H1.out.cell0) | (go_at_call 51; (with_reducible refine (TP.out _ _ H1.out.disk).mono ?_); rintro e w2 ⟨rfl, b2, hd2, ht2⟩; have HD := Lib.hid hd2; have HT := Lib.hid ht2; obtain ⟨z0, z1, z2, z3, z4⟩ := ((HX.out.below hb1).turn ht2 HO.out).cells; have z5 := (H1.out.onDisk hd2 ht2).1.cell0; clear hd2 ht2 hb1))
    go_wp2_with fail
    go_ret
    exact ⟨rfl, b2, HD.out, (Turn.below b HB1.out).trans HT.out⟩

set_option maxRecDepth 100000 in
set_option maxHeartbeats 800000 in
theorem wal_begin2 (b : List (Option Nat)) (gd g m1 m2 : Nat) (R : Rw) (bl : Nat) (w : World) (h : LR w b gd g m1 m2 R) (hx : Has w bl 36 #[.pointer (some ⟨g, 0, none⟩)]) (hfit : Fit R.D 1) :
    Calls Try.prog 104 #[.pointer (some ⟨bl, 0, none⟩)] w (DPost w b gd (R.D.sync 1) (.int .i64 (R.D.syncE 1))) := by
  have TP := Lib.hid (fun b1 w1 (h1 : DP w1 b1 gd R.D) => disk_Sync gd R.D b1 1 w1 h1 hfit.ok (by have := hfit.count; omega) (by have := hfit.waits; omega))
  obtain ⟨E, hE⟩ : ∃ x, R.D.syncE 1 = x := ⟨_, rfl⟩
  obtain ⟨D', hD⟩ : ∃ x, R.D.sync 1 = x := ⟨_, rfl⟩
  rw [hE, hD] at TP ⊢
  have HL := Lib.hid h
  have x0 := hx.cell 0
  have x1 := h.cell0
  clear hE hD h hx hfit
  go_enter Try.func104, Try.ntmps104
  go_wp2_with (go_at_call 57; (with_reducible refine (TP.out _ _ HL.out.disk).mono ?_); rintro e w2 ⟨rfl, hd2⟩; have HD := Lib.hid hd2; clear hd2)
  go_ret
  exact ⟨rfl, HD.out⟩

set_option maxRecDepth 100000 in
set_option maxHeartbeats 800000 in
theorem wal_begin4 (b : List (Option Nat)) (gd g m1 m2 : Nat) (R : Rw) (bl : Nat) (w : World) (h : LR w b gd g m1 m2 R) (hx : Has w bl 36 #[.pointer (some ⟨g, 0, none⟩)]) (hfit : Fit R.D 1) :
    Calls Try.prog 107 #[.pointer (some ⟨bl, 0, none⟩)] w (DPost w b gd (R.D.sync 1) (.int .i64 (R.D.syncE 1))) := by
  have TP := Lib.hid (fun b1 w1 (h1 : DP w1 b1 gd R.D) => disk_Sync gd R.D b1 1 w1 h1 hfit.ok (by have := hfit.count; omega) (by have := hfit.waits; omega))
  obtain ⟨E, hE⟩ : ∃ x, R.D.syncE 1 = x := ⟨_, rfl⟩
  obtain ⟨D', hD⟩ : ∃ x, R.D.sync 1 = x := ⟨_, rfl⟩
  rw [hE, hD] at TP ⊢
  have HL := Lib.hid h
  have x0 := hx.cell 0
  have x1 := h.cell0
  clear hE hD h hx hfit
  go_enter Try.func107, Try.ntmps107
  go_wp2_with (go_at_call 57; (with_reducible refine (TP.out _ _ HL.out.disk).mono ?_); rintro e w2 ⟨rfl, hd2⟩; have HD := Lib.hid hd2; clear hd2)
  go_ret
  exact ⟨rfl, HD.out⟩

set_option maxRecDepth 100000 in
set_option maxHeartbeats 800000 in
theorem wal_tell2 (b : List (Option Nat)) (gd g m1 m2 : Nat) (R : Rw) (bl : Nat) (w : World) (h : LR w b gd g m1 m2 R) (hx : Has w bl 36 #[.pointer (some ⟨g, 0, none⟩)]) (hfit : Fit R.D 1) :
    Calls Try.prog 109 #[.pointer (some ⟨bl, 0, none⟩)] w (DPost w b gd (R.D.sync 1) (.int .i64 (R.D.syncE 1))) := by
  have TP := Lib.hid (fun b1 w1 (h1 : DP w1 b1 gd R.D) => disk_Sync gd R.D b1 1 w1 h1 hfit.ok (by have := hfit.count; omega) (by have := hfit.waits; omega))
  obtain ⟨E, hE⟩ : ∃ x, R.D.syncE 1 = x := ⟨_, rfl⟩
  obtain ⟨D', hD⟩ : ∃ x, R.D.sync 1 = x := ⟨_, rfl⟩
  rw [hE, hD] at TP ⊢
  have HL := Lib.hid h
  have x0 := hx.cell 0
  have x1 := h.cell0
  clear hE hD h hx hfit
  go_enter Try.func109, Try.ntmps109
  go_wp2_with (go_at_call 57; (with_reducible refine (TP.out _ _ HL.out.disk).mono ?_); rintro e w2 ⟨rfl, hd2⟩; have HD := Lib.hid hd2; clear hd2)
  go_ret
  exact ⟨rfl, HD.out⟩

set_option maxRecDepth 100000 in
set_option maxHeartbeats 800000 in
theorem wal_Commit2 (b : List (Option Nat)) (gd g m1 m2 : Nat) (R : Rw) (bl : Nat) (w : World) (h : LR w b gd g m1 m2 R) (hx : Has w bl 36 #[.pointer (some ⟨g, 0, none⟩)]) (hfit : Fit R.D 1) :
    Calls Try.prog 70 #[.pointer (some ⟨bl, 0, none⟩)] w (DPost w b gd (R.D.sync 1) (.int .i64 (R.D.syncE 1))) := by
  have TP := Lib.hid (fun b1 w1 (h1 : DP w1 b1 gd R.D) => disk_Sync gd R.D b1 1 w1 h1 hfit.ok (by have := hfit.count; omega) (by have := hfit.waits; omega))
  obtain ⟨E, hE⟩ : ∃ x, R.D.syncE 1 = x := ⟨_, rfl⟩
  obtain ⟨D', hD⟩ : ∃ x, R.D.sync 1 = x := ⟨_, rfl⟩
  rw [hE, hD] at TP ⊢
  have HL := Lib.hid h
  have x0 := hx.cell 0
  have x1 := h.cell0
  clear hE hD h hx hfit
  go_enter Try.func70, Try.ntmps70
  go_wp2_with (go_at_call 57; (with_reducible refine (TP.out _ _ HL.out.disk).mono ?_); rintro e w2 ⟨rfl, hd2⟩; have HD := Lib.hid hd2; clear hd2)
  go_ret
  exact ⟨rfl, HD.out⟩

set_option maxRecDepth 100000 in
set_option maxHeartbeats 800000 in
theorem wal_Checkpoint2 (b : List (Option Nat)) (gd g m1 m2 : Nat) (R : Rw) (bl : Nat) (w : World) (h : LR w b gd g m1 m2 R) (hx : Has w bl 36 #[.pointer (some ⟨g, 0, none⟩)]) (hfit : Fit R.D 1) :
    Calls Try.prog 74 #[.pointer (some ⟨bl, 0, none⟩)] w (DPost w b gd (R.D.sync 0) (.int .i64 (R.D.syncE 0))) := by
  have TP := Lib.hid (fun b1 w1 (h1 : DP w1 b1 gd R.D) => disk_Sync gd R.D b1 0 w1 h1 hfit.ok (by have := hfit.count; omega) (by have := hfit.waits; omega))
  obtain ⟨E, hE⟩ : ∃ x, R.D.syncE 0 = x := ⟨_, rfl⟩
  obtain ⟨D', hD⟩ : ∃ x, R.D.sync 0 = x := ⟨_, rfl⟩
  rw [hE, hD] at TP ⊢
  have HL := Lib.hid h
  have x0 := hx.cell 0
  have x1 := h.cell0
  clear hE hD h hx hfit
  go_enter Try.func74, Try.ntmps74
  go_wp2_with (go_at_call 57; (with_reducible refine (TP.out _ _ HL.out.disk).mono ?_); rintro e w2 ⟨rfl, hd2⟩; have HD := Lib.hid hd2; clear hd2)
  go_ret
  exact ⟨rfl, HD.out⟩


end Go.Proofs.Ytjihboddejaelaa

/-
  done over a log: each function turns the log, up to the first one that fails.
-/
namespace Go.Proofs.Ytjihboddejaelaa
set_option linter.unusedVariables false
set_option linter.unusedSimpArgs false
open Go.RowKit
open Go.BigFrame
open Go.Maps
set_option linter.unusedVariables false
set_option linter.unusedSimpArgs false

/-- blocks beside the log -/
def Boxes (u : World) (xs : List (Nat × TypeId × Array Value)) : Prop := ∀ x ∈ xs, Has u x.1 x.2.1 x.2.2
def Off (xs : List (Nat × TypeId × Array Value)) (b : List (Option Nat)) : Prop := ∀ x ∈ xs, some x.1 ∉ b
theorem Boxes.turn {u u' : World} {xs : List (Nat × TypeId × Array Value)} {b b' : List (Option Nat)} (h : Boxes u xs) (ht : Turn b b' u u') (ho : Off xs b) : Boxes u' xs ∧ Off xs b' :=
  ⟨fun x hx => (h x hx).turn ht (ho x hx), fun x hx h2 => by
    rcases ht.new x.1 h2 with h3 | h3
    · exact ho x hx h3
    · have := (h x hx).lt; omega⟩
theorem Boxes.below {u u' : World} {xs : List (Nat × TypeId × Array Value)} (h : Boxes u xs) (hb : Below u.heap.size u u') : Boxes u' xs := fun x hx => (h x hx).belowS hb
/-- the state in which a chain stops, and its error -/
def upTo (Es : Nat → Int) : Nat → Nat × Int
  | 0 => (0, 0)
  | n + 1 => if (upTo Es n).2 ≠ 0 then upTo Es n else (n + 1, Es n)
theorem upTo_stop {Es : Nat → Int} {i n : Nat} (hi : (upTo Es i).2 ≠ 0) (h : i ≤ n) : upTo Es n = upTo Es i := by
  induction n with
  | zero => rw [show i = 0 by omega]
  | succ n ih =>
    rcases Nat.lt_or_ge n i with h2 | h2
    · rw [show i = n + 1 by omega]
    · have e := ih h2
      rw [upTo, if_pos (by rw [e]; exact hi), e]
theorem upTo_next {Es : Nat → Int} {i : Nat} (hi : upTo Es i = (i, 0)) : upTo Es (i + 1) = (i + 1, Es i) := by
  rw [upTo, if_neg (by rw [hi]; simp)]
/-- a log with blocks beside it, since w0 -/
def Held (w0 : World) (b0 : List (Option Nat)) (gd g m1 m2 : Nat) (xs : List (Nat × TypeId × Array Value)) (R : Rw) (u : World) : Prop :=
  ∃ b', LR u b' gd g m1 m2 R ∧ Boxes u xs ∧ Off xs (b' ++ lb g m1 m2) ∧ Turn (b0 ++ lb g m1 m2) (b' ++ lb g m1 m2) w0 u
/-- what a function of a chain leaves -/
def LinkPost (u : World) (b : List (Option Nat)) (gd g m1 m2 : Nat) (R' : Rw) (E : Int) (e : Ending) (w' : World) : Prop :=
  e = .returned (.int .i64 E) ∧ ∃ b', LR w' b' gd g m1 m2 R' ∧ Turn (b ++ lb g m1 m2) (b' ++ lb g m1 m2) u w'
theorem LinkPost.ofDisk {u : World} {b : List (Option Nat)} {gd g m1 m2 : Nat} {R : Rw} {D' : Dk} {E : Int} {e : Ending} {w' : World} (h : LR u b gd g m1 m2 R) (hp : DPost u b gd D' (.int .i64 E) e w') : LinkPost u b gd g m1 m2 { R with D := D' } E e w' := by
  obtain ⟨he, b', hd, ht⟩ := hp
  obtain ⟨h1, h2⟩ := h.onDisk hd ht
  exact ⟨he, b', h1, h2⟩

theorem wal_chain (fs : List (FuncId × Array Value)) (gs n : Nat) (w0 : World) (b0 : List (Option Nat)) (gd g m1 m2 : Nat) (xs : List (Nat × TypeId × Array Value)) (Rs : Nat → Rw) (Es : Nat → Int) (t : TypeId) (w : World)
    (hn : fs.length = n) (hn4 : n ≤ 4) (hgs : (gs, t, (fs.map (fun x => Value.func (.func x.1) #[] x.2)).toArray) ∈ xs) (h0 : Held w0 b0 gd g m1 m2 xs (Rs 0) w)
    (hrun : ∀ (i : Nat) k cs, fs[i]? = some (k, cs) → ∀ u, (callFunc k cs).run Try.prog u = .ok (.enter k cs) u)
    (hstep : ∀ (i : Nat) k cs, fs[i]? = some (k, cs) → ∀ u b', LR u b' gd g m1 m2 (Rs i) → Boxes u xs → Off xs (b' ++ lb g m1 m2) → upTo Es i = (i, 0) → Calls Try.prog k cs u (LinkPost u b' gd g m1 m2 (Rs (i + 1)) (Es i))) :
    Calls Try.prog 68 #[.slice (some ⟨gs, 0, none⟩) n n] w fun e w' => e = .returned (.int .i64 (upTo Es n).2) ∧ Held w0 b0 gd g m1 m2 xs (Rs (upTo Es n).1) w' := by
  refine (wal_done fs gs n w (fun i u => i ≤ n ∧ upTo Es i = (i, 0) ∧ Held w0 b0 gd g m1 m2 xs (Rs i) u) (fun r u => r = (upTo Es n).2 ∧ Held w0 b0 gd g m1 m2 xs (Rs (upTo Es n).1) u) hn hn4 ?_ hrun ?_ ?_ ⟨Nat.zero_le _, rfl, h0⟩).mono ?_
  · rintro i u ⟨_, _, b', _, hx, _, _⟩ j k cs hj
    have := (hx _ hgs).cell j
    simp only at this
    rw [this]
    simp [hj]
  · rintro i k cs hi u ⟨hin, hu, b', hl, hx, ho, ht⟩
    have hlt : i < n := by
      have := (List.getElem?_eq_some_iff.1 hi).1
      omega
    refine (hstep i k cs hi u b' hl hx ho hu).mono ?_
    rintro e w' ⟨rfl, b'', hl2, ht2⟩
    obtain ⟨hx2, ho2⟩ := hx.turn ht2 ho
    have hH : Held w0 b0 gd g m1 m2 xs (Rs (i + 1)) w' := ⟨b'', hl2, hx2, ho2, ht.trans ht2⟩
    have hu2 := upTo_next hu
    refine ⟨Es i, rfl, ?_⟩
    by_cases hz : Es i = 0
    · exact .inl ⟨hz, hlt, by rw [hu2, hz], hH⟩
    · have e2 : upTo Es n = (i + 1, Es i) := by
        rw [← hu2]
        exact upTo_stop (by rw [hu2]; exact hz) hlt
      exact .inr ⟨hz, by rw [e2], by rw [e2]; exact hH⟩
  · rintro u ⟨_, hu, hH⟩
    rw [hu]; exact ⟨rfl, hH⟩
  · rintro e w' ⟨r, rfl, rfl, hH⟩
    exact ⟨rfl, hH⟩

end Go.Proofs.Ytjihboddejaelaa
