/-
  The scanner of package value: take, byte, long.
-/
import Derived.Test.YtlkkpgdgnnknpaaDoorCode2
import Derived.Test.YtlkkpgdgnnknpaaDoorCodeC
import Derived.Test.YtlkkpgdgnnknpaaDoorBuf
import Derived.Laws.IdiomStrings
namespace Go.Proofs.YtlkkpgdgnnknpaaDoor
open Go.RowKit
open Go.BigFrame
set_option linter.unusedVariables false
set_option linter.unusedSimpArgs false

/-- a scanner: what is left to read, and whether something was wrong -/
def Sc (w : World) (g : Nat) (l : List UInt8) (bad : Bool) : Prop := Has w g 48 #[.string (bsOf l), .bool bad]
def ScPost (w : World) (g : Nat) (v : Value) (l : List UInt8) (bad : Bool) (e : Ending) (w' : World) : Prop := e = .returned v ∧ Sc w' g l bad ∧ w.grownBy w' (some g)
theorem ext_take (l : List UInt8) (n : Nat) : (bsOf l).extract 0 n = bsOf (l.take n) := by
  apply ByteArray.ext; apply Array.toList_inj.1
  rw [Lib.extract_data, bsOf_data, bsOf_data]; simp
theorem ext_drop (l : List UInt8) (n : Nat) : (bsOf l).extract n (bsOf l).size = bsOf (l.drop n) := by
  apply ByteArray.ext; apply Array.toList_inj.1
  rw [Lib.extract_data, bsOf_data, bsOf_data, bsOf_size, List.take_of_length_le (by simp)]
theorem grownBy_two {w : World} {g : Nat} (x y : Value) : w.grownBy ((w.setCell ⟨g, 0, none⟩ x).setCell ⟨g, 1, none⟩ y) (some g) := grownBy_trans (grownBy_setCell _ _) (grownBy_setCell _ _)

set_option maxHeartbeats 1600000 in
theorem scan_take (g : Nat) (l : List UInt8) (bad : Bool) (n : Nat) (w : World) (h : Sc w g l bad) (hl : l.length ≤ 9223372036854775807) (hn : n ≤ l.length) :
    Calls Tryd.prog 52 #[.pointer (some ⟨g, 0, none⟩), .int .i64 n] w (ScPost w g (.string (bsOf (l.take n))) (l.drop n) bad) := by
  obtain ⟨c0, c1⟩ := h.cells2
  have cf := h.frozen
  have cz := h.lt
  have E1 := Lib.hid (ext_take l n)
  have E2 := Lib.hid (ext_drop l n)
  have HS := Lib.hid (h.set 0 (.string (bsOf (l.drop n))))
  have lz : (bsOf l).size ≤ 9223372036854775807 := by rw [bsOf_size]; exact hl
  have ln : n ≤ (bsOf l).size := by rw [bsOf_size]; exact hn
  have ln2 : (n : Int) ≤ ((bsOf l).size : Int) := by omega
  obtain ⟨s, hs⟩ : ∃ s, bsOf l = s := ⟨_, rfl⟩
  rw [hs] at c0 lz ln ln2 E1 E2
  clear hs h hl hn
  go_enter Tryd.func52, Tryd.ntmps52
  go_wp2_with fail
  rw [E1.out, E2.out]
  go_ret
  exact ⟨rfl, HS.out, grownBy_setCell _ _⟩
set_option maxHeartbeats 1600000 in
theorem scan_over (g : Nat) (l : List UInt8) (bad : Bool) (n : Int) (w : World) (h : Sc w g l bad) (hl : l.length ≤ 9223372036854775807) (hn : n < 0 ∨ (l.length : Int) < n) :
    Calls Tryd.prog 52 #[.pointer (some ⟨g, 0, none⟩), .int .i64 n] w (ScPost w g (.string ⟨#[]⟩) [] true) := by
  obtain ⟨c0, c1⟩ := h.cells2
  have cf := h.frozen
  have cz := h.lt
  have HS := Lib.hid ((h.set 1 (.bool true)).set 0 (.string ⟨#[]⟩))
  have lz : (bsOf l).size ≤ 9223372036854775807 := by rw [bsOf_size]; exact hl
  have ln : n < 0 ∨ (0 ≤ n ∧ ((bsOf l).size : Int) < n) := by rw [bsOf_size]; omega
  obtain ⟨s, hs⟩ : ∃ s, bsOf l = s := ⟨_, rfl⟩
  rw [hs] at c0 lz ln
  clear hs h hl hn
  rcases ln with ln | ⟨l0, ln⟩
  all_goals
    go_enter Tryd.func52, Tryd.ntmps52
    go_wp2_with fail
    go_ret
    exact ⟨rfl, HS.out, grownBy_trans (grownBy_setCell _ _) (grownBy_setCell _ _)⟩
/-- what take(n) hands back, what it leaves, whether something was wrong -/
def takN (n : Nat) (l : List UInt8) : List UInt8 := if n ≤ l.length then l.take n else []
def drN (n : Nat) (l : List UInt8) : List UInt8 := if n ≤ l.length then l.drop n else []
def badN (bad : Bool) (n : Nat) (l : List UInt8) : Bool := if n ≤ l.length then bad else true
theorem scan_any (g : Nat) (l : List UInt8) (bad : Bool) (n : Nat) (w : World) (h : Sc w g l bad) (hl : l.length ≤ 9223372036854775807) (hn : n ≤ 9223372036854775807) :
    Calls Tryd.prog 52 #[.pointer (some ⟨g, 0, none⟩), .int .i64 n] w (ScPost w g (.string (bsOf (takN n l))) (drN n l) (badN bad n l)) := by
  by_cases hc : n ≤ l.length
  · rw [takN, drN, badN, if_pos hc, if_pos hc, if_pos hc]; exact scan_take g l bad n w h hl hc
  · rw [takN, drN, badN, if_neg hc, if_neg hc, if_neg hc]; exact scan_over g l bad n w h hl (by omega)
def hdB : List UInt8 → Nat
  | [] => 0
  | b :: _ => b.toNat
theorem hdB_lt (l : List UInt8) : hdB l < 256 := by
  cases l with
  | nil => decide
  | cons b l => exact byte_lt b
set_option maxHeartbeats 1600000 in
theorem scan_byte (g : Nat) (l : List UInt8) (bad : Bool) (w : World) (h : Sc w g l bad) (hl : l.length ≤ 9223372036854775807) :
    Calls Tryd.prog 46 #[.pointer (some ⟨g, 0, none⟩)] w (ScPost w g (.int .i64 (hdB l : Nat)) l.tail (bad || l.isEmpty)) := by
  cases l with
  | nil =>
    have T := Lib.hid (fun w1 h1 => scan_over g [] bad 1 w1 h1 (by simp) (by simp))
    have HH := Lib.hid h
    clear h
    go_enter Tryd.func46, Tryd.ntmps46
    go_wp2_with (go_at_call 52; refine (T.out _ HH.out).mono ?_; rintro e w1 ⟨rfl, hs, hg⟩; have HS := Lib.hid hs; have HG := Lib.hid hg; clear hs hg)
    go_ret
    exact ⟨rfl, by simpa using HS.out, HG.out⟩
  | cons b l =>
    have T := Lib.hid (fun w1 h1 => scan_take g (b :: l) bad 1 w1 h1 hl (by simp))
    have HH := Lib.hid h
    have lb := byte_lt b
    have n1 : (bsOf [b]).toList = [b] := by rw [Lib.toList_data, bsOf_data]
    have n2 : (bsOf [b]).size = 1 := by rw [bsOf_size]; rfl
    have n3 : (bsOf [b]).data = #[b] := rfl
    have n4 : ([b] : List UInt8).isEmpty = false := rfl
    clear h
    go_enter Tryd.func46, Tryd.ntmps46
    go_wp2_with (go_at_call 52; refine (T.out _ HH.out).mono ?_; rintro e w1 ⟨rfl, hs, hg⟩; have HS := Lib.hid hs; have HG := Lib.hid hg; clear hs hg)
    go_ret
    exact ⟨ret_int (show wrap64 (b.toNat : Int) = (b.toNat : Int) by unfold wrap64; omega), by simpa using HS.out, HG.out⟩
theorem nat_or_byte (x b : Nat) (hb : b < 256) : 256 * x ||| b = 256 * x + b := nat_join 8 (256 * x) b (by omega) (by omega)
theorem or_long {x b : Nat} (hx : x < 72057594037927936) (hb : b < 256) : bits .or .u64 ((x : Int) * 256) (b : Int) = ((256 * x + b : Nat) : Int) := by
  rw [show ((x : Int) * 256) = ((256 * x : Nat) : Int) by omega, u64_or_nat _ _ (by omega) (by omega), nat_or_byte _ _ hb]
set_option maxRecDepth 100000 in
set_option maxHeartbeats 1600000 in
theorem scan_long (g : Nat) (l : List UInt8) (bad : Bool) (w : World) (h : Sc w g l bad) (hl : l.length ≤ 9223372036854775807) :
    Calls Tryd.prog 50 #[.pointer (some ⟨g, 0, none⟩)] w (ScPost w g (.int .u64 (unK (takN 8 l) : Nat)) (drN 8 l) (badN bad 8 l)) := by
  have T := Lib.hid (fun w1 h1 => scan_any g l bad 8 w1 h1 hl (by omega))
  have HH := Lib.hid h
  have hn : (takN 8 l).length ≤ 8 := by unfold takN; split <;> simp [List.length_take]; omega
  obtain ⟨t, ht⟩ : ∃ t, takN 8 l = t := ⟨_, rfl⟩
  rw [ht] at T hn ⊢
  clear h ht
  go_enter Tryd.func50, Tryd.ntmps50
  go_wp2_with fail
  refine (T.out _ HH.out).mono ?_
  rintro e w1 ⟨rfl, hs, hg⟩
  obtain ⟨c, w2, hr, hc, hbuf, hb2⟩ := conv_new (bsOf t) w1
  rw [bsOf_size, bsOf_data] at *
  have hsz := hb2.size
  have HS := Lib.hid (hs.belowS hb2)
  have HG := Lib.hid (grownBy_below hg hb2)
  have HBU := Lib.hid hbuf
  have hlt := hbuf.lt
  obtain ⟨gb, hgb⟩ : ∃ gb, w1.heap.size = gb := ⟨_, rfl⟩
  rw [hgb] at *
  clear hs hg hb2 hbuf hgb
  go_wp2_with fail
  go_loop [3, 5, 10] (fun v3 _ v10 => ∃ i : Nat, i ≤ t.length ∧ v10 = .int .i64 i ∧ v3 = .int .u64 (unK (t.take i) : Nat)) (fun _ _ v10 => t.length - (intOf v10).toNat)
  case atStart => exact ⟨0, Nat.zero_le _, rfl, rfl⟩
  case round =>
    obtain ⟨i, hi, rfl, rfl⟩ := hrel
    by_cases h1 : i < t.length
    · have hx := unK_prefix (l := t) (i := i) (by omega) h1
      have E := Lib.hid (show unK (t.take (i + 1)) = 256 * unK (t.take i) + t[i].toNat by rw [List.take_succ_eq_append_getElem h1, unK_snoc])
      have hbt := byte_lt t[i]
      have hcell := HBU.out.cell (i := i) (v := t[i]) (by simp [h1])
      obtain ⟨x, hxx⟩ : ∃ x, unK (t.take i) = x := ⟨_, rfl⟩
      rw [hxx] at hx
      have HXX := Lib.hid hxx
      rw [hxx]
      obtain ⟨y, hy⟩ : ∃ y, t[i] = y := ⟨_, rfl⟩
      rw [hy] at hbt hcell
      have HY := Lib.hid hy
      have ho := or_long hx hbt
      simp only [u8v] at hcell
      clear hxx hy
      go_wp2_with fail
      go_round
      case rel => exact ⟨i + 1, by omega, by simp, by rw [E.out, HXX.out, HY.out]; simp⟩
      case measure => simp [intOf]; omega
    · obtain rfl : i = t.length := by omega
      go_wp2_with fail
      go_ret
      exact ⟨ret_int (by simp), HS.out, HG.out⟩

end Go.Proofs.YtlkkpgdgnnknpaaDoor
