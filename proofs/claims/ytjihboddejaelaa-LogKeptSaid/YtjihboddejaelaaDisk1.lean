/-
  put, done of package disk: rows of bytes of the disk's own.
-/
import Derived.Test.YtjihboddejaelaaDisk0
import Derived.Test.YtjihboddejaelaaObj
import Derived.Lib.BufferWrite
import Derived.Lib.SlBuf
import Derived.IntWalk
namespace Go.Proofs.Ytjihboddejaelaa
open Go.RowKit
open Go.BigFrame
set_option linter.unusedVariables false
set_option linter.unusedSimpArgs false

/-- a row that was v is v' now: written in its place, or in a block that is new -/
structure Rst (w : World) (v : Value) (w' : World) (v' : Value) : Prop where
  grown : w.grownBy w' v.ownBlock
  at_ : v'.ownBlock = v.ownBlock ∨ ∀ k, v'.ownBlock = some k → w.heap.size ≤ k
theorem Rst.refl (w : World) (v : Value) : Rst w v w v := ⟨grownBy_refl _ _, .inl rfl⟩
theorem Rst.trans {w w1 w2 : World} {v v1 v2 : Value} (h : Rst w v w1 v1) (k : Rst w1 v1 w2 v2) : Rst w v w2 v2 := by
  refine ⟨⟨k.grown.os.trans h.grown.os, k.grown.tape.trans h.grown.tape, k.grown.output.trans h.grown.output, Nat.le_trans h.grown.size k.grown.size, fun i hi hn => ?_⟩, ?_⟩
  · refine (k.grown.block i (Nat.lt_of_lt_of_le hi h.grown.size) (fun e => ?_)).trans (h.grown.block i hi hn)
    rcases h.at_ with e2 | e2
    · exact hn (e.trans e2)
    · have := e2 i e.symm; omega
  · rcases k.at_ with e | e
    · rcases h.at_ with e2 | e2
      · exact .inl (e.trans e2)
      · exact .inr (fun i hi => e2 i (e ▸ hi))
    · exact .inr (fun i hi => Nat.le_trans h.grown.size (e i hi))
theorem Rst.below {w w1 w2 : World} {v v1 : Value} (h : Rst w v w1 v1) (hb : Below w1.heap.size w1 w2) : Rst w v w2 v1 :=
  h.trans ⟨below_grownBy hb, .inl rfl⟩
theorem Rst.alloc {w w1 : World} {v v1 : Value} (h : Rst w v w1 v1) (o : Obj) : Rst w v (w1.alloc o) v1 := h.below ((Below.refl _ _).alloc (Nat.le_refl _) _)
theorem Rst.app {w w1 w2 : World} {v v1 v2 : Value} (h : Rst w v w1 v1) (hg : w1.grownBy w2 v1.ownBlock) (hat : v2.ownBlock = v1.ownBlock ∨ v2.ownBlock = some w1.heap.size) : Rst w v w2 v2 :=
  h.trans ⟨hg, hat.imp id fun e k hk => by rw [e] at hk; cases hk; exact Nat.le_refl _⟩
/-- the block of a row in its place in a world that begins earlier -/
theorem Rst.start {w w0 : World} {v : Value} (hb : Below w0.heap.size w0 w) {w' : World} {v' : Value} (h : Rst w v w' v') : Rst w0 v w' v' := (Rst.refl w0 v).below hb |>.trans h

/-- a row's new value, what it reads as, and what has turned -/
def RowPost (w : World) (e : TypeId) (size : Nat) (v : Value) (n : Nat) (xs : List Value) (e' : Ending) (w' : World) : Prop :=
  ∃ v', e' = .returned v' ∧ w'.ownsRow 0 e size v' n xs ∧ Rst w v w' v'
theorem u8s_zero (l : List UInt8) : u8s l ++ [Value.int .u8 0] = u8s (l ++ [0]) := by rw [u8s_append]; rfl
/-- copy(b[off:], x) of a text onto a row of the object's own -/
theorem run_copy_own {P : Program} {w : World} (dT sT ty elem : TypeId) (hu : P.underlying dT = some (.slice elem)) (hsz : (P.info? elem).map (·.size) = some 1)
    {e : TypeId} {A : Option Addr} {n c : Nat} {l : List UInt8} (hown : w.ownsRow 0 e 1 (.slice A n c) n (u8s l)) (dp : Option Addr) (dLen dCap off : Nat) (x : ByteArray)
    (hdp : 0 < x.size → dp = A.map (·.add (off * 1))) (hle : x.size ≤ dLen) (hfit : off + x.size ≤ n) :
    ∃ w', (Builtin.copy_ #[dT, sT] ty #[.slice dp dLen dCap, .string x]).run P w = .ok (goInt x.size) w' ∧ w'.ownsRow 0 e 1 (.slice A n c) n (u8s (l.take off ++ x.data.toList ++ l.drop (off + x.size))) ∧ w.grownBy w' (Value.ownBlock (.slice A n c)) := by
  have hll : l.length = n := by have := hown.1; rw [u8s_len] at this; omega
  rcases Nat.eq_zero_or_pos x.size with h0 | h0
  · have hr := Lib.run_copy_empty_string (P := P) w dT sT ty elem dp dLen dCap x hu (by rw [hsz]; rfl) h0
    have hx : x.data.toList = [] := List.eq_nil_of_length_eq_zero (by simpa using h0)
    refine ⟨w, by rw [h0]; exact hr, ?_, grownBy_refl _ _⟩
    rw [hx, h0, List.append_nil, Nat.add_zero, List.take_append_drop]; exact hown
  · rcases hown.2 with ⟨h1, h2⟩ | ⟨g, cap, cur, hv, hbg, hg, hnc, hcm, hcs, htk⟩
    · omega
    · cases hv
      have hdp2 := hdp h0
      have ha : (⟨g, 0, none⟩ : Addr).add (off * 1) = ⟨g, off, none⟩ := by rw [addr_add]; simp
      simp only [Option.map_some, ha] at hdp2
      subst hdp2
      have hsz2 : cur.size = c := by rw [hcs]; omega
      have hr := Lib.run_copy_row_string (P := P) w dT sT ty elem g off dLen dCap x cur e hu hsz hg hle (by omega)
      refine ⟨_, hr, ⟨?_, .inr ⟨g, c, _, rfl, hbg, setRow_heap w g cur _ e (0, 0) hg, hnc, hcm, ?_, ?_⟩⟩, ⟨rfl, rfl, rfl, by simp [World.setRow], fun k _ hk => setRow_other w g k _ (fun e => hk (by rw [e]; rfl))⟩⟩
      · rw [u8s_len]; simp; omega
      · rw [List.size_toArray]
        simp only [List.length_append, List.length_take, List.length_drop, Array.length_toList, show (Lib.byteCells x.data.toList) = u8s x.data.toList from rfl, u8s_len, show x.data.size = x.size from rfl]
        omega
      · have htk' : cur.toList.take n = u8s l := by simpa using htk
        have e1 : cur.toList.take off = u8s (l.take off) := by
          have : (cur.toList.take n).take off = cur.toList.take off := by rw [List.take_take, Nat.min_eq_left (by omega)]
          rw [← this, htk']; simp [u8s, List.map_take]
        have e2 : (cur.toList.drop (off + x.size)).take (n - (off + x.size)) = u8s (l.drop (off + x.size)) := by
          rw [← List.drop_take, htk']; simp [u8s, List.map_drop]
        have hx : x.data.toList.length = x.size := by simp
        rw [Nat.mul_one]
        show (cur.toList.take off ++ u8s x.data.toList ++ cur.toList.drop (off + x.size)).take n = _
        rw [u8s_append, u8s_append, e1, ← e2, List.take_append, List.take_of_length_le (by rw [List.length_append, u8s_len, u8s_len, List.length_take, hx]; omega)]
        congr 2
        rw [List.length_append, u8s_len, u8s_len, List.length_take, hx]
        omega
theorem wpList_copy_own_str {P : Program} {w : World} {ops : Array Oper} {rest : List Oper} {o : Oper} {a : Act} {Q : Exit → Act → World → Prop} (hgd : o.guard = none) (d s : Operand) (dT sT : TypeId)
    (ho : o.op = .call { callee := .builtin .copy, args := #[d, s], argTypes := #[dT, sT] }) (elem : TypeId) (hu : P.underlying dT = some (.slice elem)) (hsz : (P.info? elem).map (·.size) = some 1)
    {e : TypeId} {A : Option Addr} {n c : Nat} {l : List UInt8} (hown : w.ownsRow 0 e 1 (.slice A n c) n (u8s l)) (dp : Option Addr) (dLen dCap off : Nat) (x : ByteArray)
    (hd : a.eval d = .slice dp dLen dCap) (hs : a.eval s = .string x)
    (hdp : 0 < x.size → dp = A.map (·.add (off * 1))) (hle : x.size ≤ dLen) (hfit : off + x.size ≤ n)
    (h : ∀ w', w'.ownsRow 0 e 1 (.slice A n c) n (u8s (l.take off ++ x.data.toList ++ l.drop (off + x.size))) → w.grownBy w' (Value.ownBlock (.slice A n c)) → wpList P ops Q rest (a.put o.dst (goInt x.size)) w') : wpList P ops Q (o :: rest) a w := by
  refine wpList_plain hgd fun K hK => ?_
  obtain ⟨w', hr, h1, h2⟩ := run_copy_own (P := P) dT sT o.type elem hu hsz hown dp dLen dCap off x hdp hle hfit
  unfold Oper.wp
  simp [execOp, ho, resolve, invoke, builtin, hd, hs, hr, Result.andThen]
  exact hK _ _ (h w' h1 h2)
theorem slice_from (A : Option Addr) (m c a : Nat) (h : a ≤ m) : ∃ dp k, (∀ w : World, (Instr.sliceAt 81 (.slice A m c) (some (.int .i64 a)) none none).run Try.prog w = .ok (.slice dp (m - a) k) w) ∧ (a < c → dp = A.map (·.add (a * 1))) := by
  have h1 : (0 : Int) ≤ (a : Int) := by omega
  have h2 : (a : Int) ≤ (m : Int) := by omega
  refine ⟨if c = a then A else A.map (·.add (a * 1)), c - a, fun w => ?_, fun h => if_neg (by omega)⟩
  go_simp
def lenV : Value → Nat
  | .slice _ n _ => n
  | _ => 0

set_option maxRecDepth 100000 in
set_option maxHeartbeats 1600000 in
theorem disk_put (v : Value) (l : List UInt8) (a : Nat) (t : ByteArray) (w : World) (hown : w.ownsRow 0 5 1 v l.length (u8s l)) (hl : l.length ≤ 67108864) (ha : a + t.size ≤ 67108864) :
    Calls Try.prog 110 #[v, .int .i64 a, .string t] w (RowPost w 5 1 v (putL l a t.data.toList).length (u8s (putL l a t.data.toList))) := by
  obtain ⟨i0, hi, hz0, hz1, hz2⟩ := info_parts infoByte
  have HO := Lib.hid hown
  clear hown
  obtain ⟨N, hN⟩ : ∃ N, a + t.size = N := ⟨_, rfl⟩
  have hN1 : N ≤ 67108864 := by omega
  have hN2 : (a : Int) + (t.size : Int) = (N : Int) := by omega
  have HN := Lib.hid hN
  clear hN ha
  go_enter Try.func110, Try.ntmps110
  go_wp2_with fail
  go_loopw [0] (fun v0 wr => ∃ m : Nat, l.length ≤ m ∧ m ≤ max l.length N ∧ wr.ownsRow 0 5 1 v0 m (u8s (zerosTo l m)) ∧ Rst w v wr v0) (fun v0 _ => N - lenV v0)
  case atStart => exact ⟨l.length, Nat.le_refl _, by omega, by rw [zerosTo_big (Nat.le_refl _)]; exact HO.out, Rst.refl _ _⟩
  case round =>
    obtain ⟨m, hm1, hm2, ho, hr⟩ := hrel
    have hm3 : m ≤ 67108864 := by omega
    obtain ⟨A, c, rfl, hmc, _⟩ := BS.of_own ho
    have HO1 := Lib.hid ho
    have HR := Lib.hid hr
    clear HO ho hr
    by_cases hmN : m < N
    · have G1 := Lib.hid (show m + 1 ≤ maxLen by unfold maxLen; omega)
      have G2 := Lib.hid (show (m + 1) * 1 ≤ 140737488355328 by omega)
      have HZ := Lib.hid (zerosTo_step hm1 hmN)
      go_wp2_with ((at_builtin; refine wpList_append_src _ rfl (.tmp 14) (.tmp 15) 81 81 rfl (0) 5 i0 _ 1 1 Try.underlying81 hi hz0 hz1 hz2 zeroByte1 (by decide) (_) (m) (_) rfl (HO1.out.alloc _) (.slice (some ⟨_, 0, none⟩) 1 1) (1) ([Value.int .u8 0]) rfl (Src.ofSlice _ Try.underlying81 ⟨_, 0, none⟩ 1 1 ([Value.int .u8 0]) rfl (World.news_of_block (heap_alloc_new _ _)) (by simp [Value.oneCell'])) (G1.out) (G2.out) (Nat.zero_le _) ?_; intro v1 w1 hown1 hg1 _ hat1); have HO2 := Lib.hid hown1; have HR2 := Lib.hid ((HR.out.alloc _).app hg1 hat1); clear hown1 hg1 hat1)
      rw [u8s_zero, HZ.out] at HO2
      obtain ⟨A2, c2, hv2, _, _⟩ := BS.of_own HO2.out
      have HV2 := Lib.hid hv2
      clear hv2
      go_roundw
      case rel => exact ⟨m + 1, by omega, by omega, HO2.out, HR2.out⟩
      case measure => rw [HV2.out]; simp [lenV]; omega
    · have ham : a ≤ m := by have := HN.out; omega
      obtain ⟨dp, k, hsl, hdp⟩ := slice_from A m c a ham
      have HDP := Lib.hid hdp
      have HMX := Lib.hid (show m = max l.length N by omega)
      clear hdp
      go_wp2_with (with_reducible refine wpList_copy_own_str rfl (.tmp 19) (.tmp 20) 81 9 rfl 5 Try.underlying81 (by kernel_rfl) HO1.out dp (m - a) k a t rfl rfl (fun h0 => HDP.out (by have := HN.out; omega)) (by have := HN.out; omega) (by have := HN.out; omega) ?_; intro w1 hown1 hg1; have HO2 := Lib.hid hown1; have HG2 := Lib.hid hg1; clear hown1 hg1)
      have hx : t.data.toList.length = t.size := by simp
      have hm : m = (putL l a t.data.toList).length := by rw [putL_len, hx, HMX.out, ← HN.out]
      have hz : zerosTo l m = zerosTo l (a + t.data.toList.length) := by
        unfold zerosTo; rw [hx, HN.out, show m - l.length = N - l.length by have := HMX.out; omega]
      go_ret
      refine ⟨_, rfl, ?_, HR.out.trans ⟨HG2.out, .inl rfl⟩⟩
      have := HO2.out
      rw [hz, ← hx] at this
      rw [← hm]
      exact this

theorem ne_app {v v1 : Value} {n g : Nat} (h : ∀ k, v.ownBlock = some k → k ≠ g) (hat : v1.ownBlock = v.ownBlock ∨ v1.ownBlock = some n) (hn : g < n) : ∀ k, v1.ownBlock = some k → k ≠ g := fun k hk => by
  rcases hat with e | e
  · exact h k (e ▸ hk)
  · rw [e] at hk; cases hk; omega
def chVal (c : Ch) : Value := .agg #[.int .i64 c.file, .int .i64 c.at_, .string c.text, .bool c.cut]
def Ch.cells (c : Ch) : List Value := [.int .i64 c.file, .int .i64 c.at_, .string c.text, .bool c.cut]
theorem RowPost.start {w w0 : World} {e : TypeId} {size : Nat} {v : Value} {n : Nat} {xs : List Value} {e' : Ending} {w' : World} (h : RowPost w e size v n xs e' w') (hb : Below w0.heap.size w0 w) : RowPost w0 e size v n xs e' w' := by
  obtain ⟨v', h1, h2, h3⟩ := h
  exact ⟨v', h1, h2, h3.start hb⟩
theorem own_len {w : World} {b : Nat} {e : TypeId} {A : Option Addr} {n c k : Nat} {l : List UInt8} (h : w.ownsRow b e 1 (.slice A n c) n (u8s l)) (hk : k ≤ n) : w.ownsRow b e 1 (.slice A k c) k (u8s (l.take k)) := by
  have hl : l.length = n := by have := h.1; rw [u8s_len] at this; omega
  refine ⟨by rw [u8s_len, List.length_take]; omega, ?_⟩
  rcases h.2 with ⟨h1, h2⟩ | ⟨g, cap, cur, hv, hbg, hg, hnc, hcm, hcs, htk⟩
  · cases h1; have : k = 0 := by omega
    subst this; exact .inl ⟨rfl, rfl⟩
  · cases hv
    refine .inr ⟨g, c, cur, rfl, hbg, hg, by omega, hcm, hcs, ?_⟩
    have e : (cur.toList.take (n * 1)).take (k * 1) = cur.toList.take (k * 1) := by rw [List.take_take, Nat.min_eq_left (by omega)]
    rw [← e, htk]; simp [u8s, List.map_take]
theorem slice_to (A : Option Addr) (m c a : Nat) (h : a ≤ c) (w : World) : (Instr.sliceAt 81 (.slice A m c) none (some (.int .i64 a)) none).run Try.prog w = .ok (.slice A a c) w := by
  have h1 : (0 : Int) ≤ (a : Int) := by omega
  have h2 : (a : Int) ≤ (c : Int) := by omega
  go_simp

set_option maxRecDepth 100000 in
set_option maxHeartbeats 1600000 in
theorem disk_done (c : Ch) (v : Value) (l : List UInt8) (w : World) (hown : w.ownsRow 0 5 1 v l.length (u8s l)) (hl : l.length ≤ 67108864) (hc : c.fits) :
    Calls Try.prog 76 #[chVal c, v] w (RowPost w 5 1 v (c.done l).length (u8s (c.done l))) := by
  obtain ⟨i0, hi, hz0, hz1, hz2⟩ := info_parts infoByte
  obtain ⟨f, a, t, b⟩ := c
  obtain ⟨hf, ha, hat, hct⟩ := hc
  simp only at hf ha hat hct
  show Calls Try.prog 76 #[.agg #[.int .i64 f, .int .i64 a, .string t, .bool b], v] w _
  have HO := Lib.hid hown
  have HW := Lib.hid (Has.new w 112 #[.int .i64 f, .int .i64 a, .string t, .bool b])
  have HB0 := Lib.hid ((Below.refl w.heap.size w).alloc (Nat.le_refl _) (.cells #[.int .i64 f, .int .i64 a, .string t, .bool b] 112))
  clear hown
  cases b with
  | false =>
    have E := Lib.hid (show Ch.done ⟨f, a, t, false⟩ l = putL l a t.data.toList from rfl)
    have T := Lib.hid (fun w1 h1 => disk_put v l a t w1 h1 hl hat)
    rw [E.out]
    go_enter Try.func76, Try.ntmps76
    go_wp2_with (go_at_call 110; (with_reducible refine (T.out _ (HO.out.alloc _)).mono ?_); rintro e w1 ⟨v1, rfl, hown1, hr1⟩)
    go_ret
    exact ⟨v1, rfl, hown1, hr1.start HB0.out⟩
  | true =>
    have E := Lib.hid (show Ch.done ⟨f, a, t, true⟩ l = (zerosTo l a).take a from rfl)
    rw [E.out]
    have HB := Lib.hid HB0.out.size
    go_enter Try.func76, Try.ntmps76
    go_wp2_with fail
    go_loopw [1] (fun v1 wr => ∃ m : Nat, l.length ≤ m ∧ m ≤ max l.length a ∧ wr.ownsRow 0 5 1 v1 m (u8s (zerosTo l m)) ∧ Rst w v wr v1 ∧ Has wr w.heap.size 112 #[.int .i64 f, .int .i64 a, .string t, .bool true] ∧ ∀ k, v1.ownBlock = some k → k ≠ w.heap.size) (fun v1 _ => a - lenV v1)
    case atStart => exact ⟨l.length, Nat.le_refl _, by omega, by rw [zerosTo_big (Nat.le_refl _)]; exact HO.out.alloc _, (Rst.refl _ _).alloc _, HW.out, fun k hk e => by have := (HO.out.lt k hk).2; omega⟩
    case round =>
      obtain ⟨m, hm1, hm2, ho, hr, hw, hne⟩ := hrel
      have hm3 : m ≤ 67108864 := by omega
      obtain ⟨A, c, rfl, hmc, _⟩ := BS.of_own ho
      have HO1 := Lib.hid ho
      have HR := Lib.hid hr
      have HWr := Lib.hid hw
      have HNE := Lib.hid hne
      obtain ⟨c0, c1, c2⟩ := (show wr.cell? ⟨w.heap.size, 1, none⟩ = some (.int .i64 a) ∧ True ∧ True from ⟨hw.cell 1, trivial, trivial⟩)
      have cz := hw.lt
      clear HO ho hr hw hne HW HB0
      by_cases hmN : m < a
      · have G1 := Lib.hid (show m + 1 ≤ maxLen by unfold maxLen; omega)
        have G2 := Lib.hid (show (m + 1) * 1 ≤ 140737488355328 by omega)
        have HZ := Lib.hid (zerosTo_step hm1 hmN)
        go_wp2_with ((at_builtin; refine wpList_append_src _ rfl (.tmp 12) (.tmp 13) 81 81 rfl (0) 5 i0 _ 1 1 Try.underlying81 hi hz0 hz1 hz2 zeroByte1 (by decide) (_) (m) (_) rfl (HO1.out.alloc _) (.slice (some ⟨_, 0, none⟩) 1 1) (1) ([Value.int .u8 0]) rfl (Src.ofSlice _ Try.underlying81 ⟨_, 0, none⟩ 1 1 ([Value.int .u8 0]) rfl (World.news_of_block (heap_alloc_new _ _)) (by simp [Value.oneCell'])) (G1.out) (G2.out) (Nat.zero_le _) ?_; intro v1 w1 hown1 hg1 _ hat1); have HO2 := Lib.hid hown1; have HR2 := Lib.hid ((HR.out.alloc _).app hg1 hat1); have HW2 := Lib.hid ((HWr.out.alloc _).grown hg1 (fun e => HNE.out _ e.symm rfl)); have HNE2 := Lib.hid (ne_app HNE.out hat1 (by simp; omega)); clear hown1 hg1 hat1)
        rw [u8s_zero, HZ.out] at HO2
        obtain ⟨A2, c2, hv2, _, _⟩ := BS.of_own HO2.out
        have HV2 := Lib.hid hv2
        clear hv2
        go_roundw
        case rel => exact ⟨m + 1, by omega, by omega, HO2.out, HR2.out, HW2.out, HNE2.out⟩
        case measure => rw [HV2.out]; simp [lenV]; omega
      · have ham : a ≤ m := by omega
        have hac : a ≤ c := by omega
        have hsl := fun w => slice_to A m c a hac w
        have HMX := Lib.hid (show m = max l.length a by omega)
        go_wp2_with fail
        go_ret
        have ho := own_len HO1.out ham
        have hz : zerosTo l m = zerosTo l a := by unfold zerosTo; rw [show m - l.length = a - l.length by have := HMX.out; omega]
        have hl2 : ((zerosTo l a).take a).length = a := by rw [List.length_take, zerosTo_len]; omega
        rw [hz] at ho
        refine ⟨_, rfl, ?_, HR.out.trans ⟨grownBy_refl _ _, .inl ?_⟩⟩
        · rw [hl2]; exact ho
        · cases A <;> rfl

end Go.Proofs.Ytjihboddejaelaa
