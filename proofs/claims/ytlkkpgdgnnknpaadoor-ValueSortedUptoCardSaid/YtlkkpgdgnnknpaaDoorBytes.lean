/-
  Numbers as bytes, the highest first; bytes, unbytes, in of the reference; slices of bytes that read as a list.
-/
import Derived.Test.YtlkkpgdgnnknpaaDoorAppend
import Derived.Test.YtlkkpgdgnnknpaaDoorFull
import Derived.Test.YtlkkpgdgnnknpaaDoorRows
import Derived.WalkSpells
import Derived.WalkLawsBesides
import Derived.BigQuiet
import Derived.Outline
import Derived.LoopTactic
import Derived.Deep.DeepCutAuto
import Derived.Deep.AppendLies
import Derived.Laws.BitsAllLaws
import Derived.Laws.CopyOwn
import Derived.Laws.BytesArg
namespace Go.Proofs.YtlkkpgdgnnknpaaDoor
open Go.RowKit
open Go.BigFrame
set_option linter.unusedVariables false
set_option linter.unusedSimpArgs false

theorem byte_lt (b : UInt8) : b.toNat < 256 := by have := b.toNat_lt; omega
theorem zeroByte1 : (Value.int .u8 0).cells.size = 1 := by kernel_rfl
theorem infoByte : (Tryd.prog.info? 5).map (fun i => (i.zero, i.size, i.bytes)) = some (some (.int .u8 0), 1, 1) := by kernel_rfl

/-- a number's k lowest bytes, the highest first -/
def beK : Nat → Nat → List UInt8
  | _, 0 => []
  | n, k + 1 => beK (n / 256) k ++ [UInt8.ofNat n]
theorem beK_len : ∀ (k n : Nat), (beK n k).length = k
  | 0, _ => rfl
  | k + 1, n => by simp [beK, beK_len k]
theorem beK_two (n : Nat) : beK n 2 = [UInt8.ofNat (n / 256), UInt8.ofNat n] := rfl
theorem beK_four (n : Nat) : beK n 4 = beK (n / 65536) 2 ++ beK n 2 := by
  have e1 : n / 256 / 256 = n / 65536 := by omega
  have e2 : n / 256 / 256 / 256 = n / 65536 / 256 := by omega
  simp only [beK_two, beK, List.nil_append, List.append_assoc, List.cons_append, e2, e1]
def u8v (b : UInt8) : Value := .int .u8 (b.toNat : Nat)
def u8s (l : List UInt8) : List Value := l.map u8v
theorem u8s_append (a b : List UInt8) : u8s (a ++ b) = u8s a ++ u8s b := by simp [u8s]
theorem u8s_len (l : List UInt8) : (u8s l).length = l.length := by simp [u8s]
theorem u8s_one {l : List UInt8} : ∀ v ∈ u8s l, v.oneCell' = true := fun v hv => by
  obtain ⟨b, _, rfl⟩ := List.mem_map.1 hv; rfl
theorem u8s_get (l : List UInt8) (j : Nat) : (u8s l)[j]? = (l[j]?).map u8v := by simp [u8s]
theorem toNat_ofNat8 (n : Nat) : ((UInt8.ofNat n).toNat : Int) = (n : Int) % 256 := by
  rw [UInt8.toNat_ofNat']; omega

/-- the slice value '.slice A n c' reads as these bytes -/
def BS (w : World) (A : Option Addr) (n : Nat) (l : List UInt8) : Prop :=
  l.length = n ∧ (0 < n → ∃ b off, A = some ⟨b, off, none⟩ ∧ b < w.heap.size ∧ ∀ i v, l[i]? = some v → w.cell? ⟨b, off + i, none⟩ = some (u8v v))
section
variable {w w' : World} {A : Option Addr} {n : Nat} {l : List UInt8}
theorem BS.keep (h : BS w A n l) (hb : Below w.heap.size w w') : BS w' A n l :=
  ⟨h.1, fun hn => by
    obtain ⟨b, off, hA, hl, hc⟩ := h.2 hn
    exact ⟨b, off, hA, Nat.lt_of_lt_of_le hl hb.size, fun i v hv => (hb.cell (p := ⟨b, off + i, none⟩) hl).trans (hc i v hv)⟩⟩
theorem BS.of_has {g : Nat} {t : TypeId} (h : Has w g t (u8s l).toArray) : BS w (some ⟨g, 0, none⟩) l.length l :=
  ⟨rfl, fun _ => ⟨g, 0, rfl, h.lt, fun i v hv => by rw [Nat.zero_add, h.cell]; simp [u8s_get, hv]⟩⟩
theorem addr_add (b off j : Nat) : (⟨b, off, none⟩ : Addr).add j = ⟨b, off + j, none⟩ := by unfold Addr.add; split <;> simp_all
theorem BS.src {c : Nat} (h : BS w A n l) {e' tx : TypeId} {P : Program} (hk : P.underlying tx = some (.slice e')) : Src P 1 tx (.slice A n c) n (u8s l) w := by
  rcases Nat.eq_zero_or_pos n with rfl | hn
  · have hv : l = [] := List.eq_nil_of_length_eq_zero h.1
    subst hv
    cases A with
    | none => exact Src.ofNil w hk c
    | some a => exact Src.ofSlice w hk a 0 c [] rfl (fun j u hu => by simp at hu) (fun u hu => by simp at hu)
  · obtain ⟨b, off, rfl, hb, hc⟩ := h.2 hn
    exact Src.ofSlice w hk _ n c _ (by simp [u8s, h.1]) (fun j u hu => by
      rw [addr_add]
      rw [u8s_get] at hu
      obtain ⟨v, hv, rfl⟩ := Option.map_eq_some_iff.1 hu
      exact hc j v hv) u8s_one
theorem BS.of_own {base : Nat} {e : TypeId} {v : Value} (h : w.ownsRow base e 1 v n (u8s l)) : ∃ A c, v = .slice A n c ∧ n ≤ c ∧ BS w A n l := by
  have hl : l.length = n := by have := h.1; simp [u8s] at this; exact this
  rcases h.2 with ⟨rfl, h0⟩ | ⟨g, cap, cur, rfl, hb, hgg, hnc, _⟩
  · subst h0
    exact ⟨none, 0, rfl, Nat.le_refl _, hl, fun h => absurd h (by omega)⟩
  · refine ⟨_, _, rfl, hnc, hl, fun _ => ⟨g, 0, rfl, (Array.getElem?_eq_some_iff.1 hgg).1, fun i u hu => ?_⟩⟩
    have := h.cells (g := g) rfl i (u8v u) (by rw [u8s_get, hu]; rfl)
    rw [addr_add] at this; exact this
end
/-- a new slice of bytes that reads as this list -/
def BytesPost (w : World) (l : List UInt8) (e : Ending) (w' : World) : Prop := ∃ A c, e = .returned (.slice A l.length c) ∧ BS w' A l.length l ∧ Below w.heap.size w w'

theorem wpList_append_full {P : Program} {w : World} {ops : Array Oper} {rest : List Oper} {o : Oper} {a : Act} {Q : Exit → Act → World → Prop} (hgd : o.guard = none) (s x : Operand) (t tx : TypeId)
    (ho : o.op = .call { callee := .builtin .append, args := #[s, x], argTypes := #[t, tx] })
    (base : Nat) (e : TypeId) (i : TypeInfo) (z : Value) (size bytes : Nat) (ht : P.underlying t = some (.slice e)) (hi : P.info? e = some i) (hz : i.zero = some z)
    (hsize : i.size = size) (hby : i.bytes = bytes) (hzs : z.cells.size = size)
    (g n : Nat) (xs : List Value) (hs : a.eval s = .slice (some ⟨g, 0, none⟩) n n) (hown : w.ownsRow base e size (.slice (some ⟨g, 0, none⟩) n n) n xs)
    (y : Value) (m : Nat) (news : List Value) (hx : a.eval x = y) (hsrc : Src P size tx y m news w)
    (h63 : n + m ≤ maxLen) (hbytes : (n + m) * bytes ≤ 140737488355328) (hbase : base ≤ w.heap.size)
    (h : ∀ A c w', w'.ownsRow base e size (.slice A (n + m) c) (n + m) (xs ++ news) → Below w.heap.size w w' → wpList P ops Q rest (a.put o.dst (.slice A (n + m) c)) w') : wpList P ops Q (o :: rest) a w := by
  refine wpList_plain hgd fun K hK => ?_
  obtain ⟨v', w', hr, h2, h3⟩ := run_append_full (P := P) w base t tx o.type e i z size bytes ht hi hz hsize hby hzs g n xs hown y m news hsrc h63 hbytes hbase
  obtain ⟨A, c, rfl⟩ : ∃ A c, v' = .slice A (n + m) c := by
    rcases h2.2 with ⟨hv, h0⟩ | ⟨g, cap, cur, hv, _⟩
    · exact ⟨none, 0, by rw [hv, h0]⟩
    · exact ⟨_, _, hv⟩
  unfold Oper.wp execOp
  simp only [ho, resolve, invoke, builtin, Sem.run_bind, Sem.run_pure, Result.andThen_ok, List.map_toArray, List.map_cons, List.map_nil, hs, hx, hr]
  exact hK _ _ (h A c w' h2 h3)
theorem Has.own {w : World} {g : Nat} {t : TypeId} {l : List Value} {B n : Nat} (h : Has w g t l.toArray) (hB : B ≤ g) (hn : l.length = n) (hm : n ≤ maxLen) : w.ownsRow B t 1 (.slice (some ⟨g, 0, none⟩) n n) n l :=
  ⟨by omega, .inr ⟨g, n, l.toArray, rfl, hB, h, Nat.le_refl _, hm, by simp [hn], by simp [← hn]⟩⟩

def bsOf (l : List UInt8) : ByteArray := ⟨l.toArray⟩
theorem bsOf_data (l : List UInt8) : (bsOf l).data.toList = l := by simp [bsOf]
theorem bsOf_size (l : List UInt8) : (bsOf l).size = l.length := by simp [bsOf, ByteArray.size]
theorem bsOf_append (a b : List UInt8) : bsOf a ++ bsOf b = bsOf (a ++ b) := ByteArray.mk_append_mk _ _
theorem bsOf_of (s : ByteArray) : bsOf s.data.toList = s := by simp [bsOf]
theorem beK_step (n k : Nat) (l : List UInt8) : beK n (k + 1) ++ l = beK (n / 256) k ++ (UInt8.ofNat n :: l) := by simp [beK]

theorem strOfNums_bs (l : List UInt8) : strOfNums (l.map fun b => (b.toNat : Int)) = bsOf l := by
  unfold strOfNums bsOf
  rw [List.map_map]
  congr 2
  rw [show ((fun n : Int => UInt8.ofNat n.toNat) ∘ fun b : UInt8 => (b.toNat : Int)) = id by funext b; simp]
  simp
theorem conv_BS {w : World} {A : Option Addr} {n c : Nat} {l : List UInt8} (h : BS w A n l) : (convert 55 9 (.slice A n c)).run Tryd.prog w = .ok (.string (bsOf l)) w := by
  rcases Nat.eq_zero_or_pos n with rfl | hn
  · have hv : l = [] := List.eq_nil_of_length_eq_zero h.1
    subst hv
    cases A with
    | none => exact run_convert_bytes_nil w _ _ Tryd.underlying55 Tryd.underlying5 0 c _ Tryd.underlying9
    | some a =>
      have hl : (loadCells a 0).run Tryd.prog w = .ok (([] : List Int).map (Value.int .u8)).toArray w := by
        have := run_loadCells_list (P := Tryd.prog) w a [] (fun j v hj => by simp at hj)
        simpa using this
      rw [run_convert_bytes_string w _ _ _ _ 0 c Tryd.underlying55 Tryd.underlying5 Tryd.underlying9, run_bytesToString w a 0 c [] hl]
      rfl
  · obtain ⟨b, off, rfl, hb, hc⟩ := h.2 hn
    have := run_convert_bytes_arg (P := Tryd.prog) w 55 5 Tryd.underlying55 Tryd.underlying5 b off n c (l.map fun b => (b.toNat : Int)) (by simpa using h.1) (fun i hi => by
      have hl : i < l.length := by rw [h.1]; exact hi
      rw [hc i l[i] (by simp [hl])]
      simp [u8v, hl]) _ Tryd.underlying9
    rw [strOfNums_bs] at this
    exact this

set_option maxRecDepth 100000 in
set_option maxHeartbeats 1600000 in
theorem ref_bytes (n k : Nat) (hn : n < 18446744073709551616) (hk : k ≤ 1000) (w : World) : Calls Tryd.prog 41 #[.int .u64 n, .int .i64 k] w fun e w' => e = .returned (.string (bsOf (beK n k))) ∧ Below w.heap.size w w' := by
  go_enter Tryd.func41, Tryd.ntmps41
  go_wp2_with fail
  go_loopw [0, 1, 5] (fun v0 v1 v5 wr => ∃ (n' k' : Nat) (l : List UInt8), v0 = .int .u64 n' ∧ v1 = .int .i64 k' ∧ v5 = .string (bsOf l) ∧ beK n k = beK n' k' ++ l ∧ n' < 18446744073709551616 ∧ l.length + k' = k ∧ Below w.heap.size w wr) (fun _ v1 _ _ => (intOf v1).toNat)
  case atStart => exact ⟨n, k, [], rfl, rfl, rfl, by simp, hn, by simp, Below.refl _ _⟩
  case round =>
    obtain ⟨n', k', l, rfl, rfl, rfl, he, hn', hl, hbel⟩ := hrel
    have HE := Lib.hid he; clear he
    have HL := Lib.hid hl; clear hl
    cases k' with
    | zero =>
      have E := Lib.hid (show bsOf l = bsOf (beK n k) by rw [HE.out]; rfl)
      go_wp2_with fail
      go_ret
      exact ⟨by rw [← E.out]; rfl, hbel⟩
    | succ j =>
      have ST := Lib.hid (HE.out.trans (beK_step n' j l))
      have hcat : bsOf [UInt8.ofNat n'] ++ bsOf l = bsOf (UInt8.ofNat n' :: l) := by rw [bsOf_append]; rfl
      have hs1 : (bsOf [UInt8.ofNat n']).size = 1 := by rw [bsOf_size]; rfl
      have hs2 : (bsOf l).size ≤ 1000 := by rw [bsOf_size]; have := HL.out; omega
      have hcv := conv_BS (c := 1) (BS.of_has (Has.new wr 5 (u8s [UInt8.ofNat n']).toArray))
      rw [show (u8s [UInt8.ofNat n']).toArray = #[.int .u8 ((n' : Int) % 256)] by simp only [u8s, u8v, List.map_cons, List.map_nil, toNat_ofNat8]] at hcv
      have hcv2 : (convert 55 9 (.slice (some ⟨wr.heap.size, 0, none⟩) 1 1)).run Tryd.prog (wr.alloc (.cells #[.int .u8 ((n' : Int) % 256)] 5)) = .ok (.string (bsOf [UInt8.ofNat n'])) (wr.alloc (.cells #[.int .u8 ((n' : Int) % 256)] 5)) := hcv
      clear hcv
      have k1 : ((j + 1 : Nat) : Int) = (j : Int) + 1 := by omega
      have k2 : j ≤ 1000 := by have := HL.out; omega
      go_wp2_with fail
      go_roundw
      case rel => exact ⟨n' / 256, j, _, by simp, by simp, rfl, ST.out, by omega, by have := HL.out; simp; omega, hbel.alloc hbel.size _⟩
      case measure => simp [intOf]

/-- what bytes are as a number -/
def unK (l : List UInt8) : Nat := l.foldl (fun n b => 256 * n + b.toNat) 0
theorem unK_snoc (l : List UInt8) (b : UInt8) : unK (l ++ [b]) = 256 * unK l + b.toNat := by simp [unK]
theorem unK_lt : ∀ (k : Nat) (l : List UInt8), l.length = k → unK l < 256 ^ k
  | 0, l, h => by rw [List.eq_nil_of_length_eq_zero h]; decide
  | k + 1, l, h => by
    rcases List.eq_nil_or_concat l with rfl | ⟨m, b, rfl⟩
    · simp at h
    · have h2 : m.length = k := by simpa using h
      have := unK_lt k m h2
      have hb := byte_lt b
      rw [List.concat_eq_append, unK_snoc, Nat.pow_succ]
      omega
set_option maxRecDepth 100000 in
set_option maxHeartbeats 1600000 in
theorem ref_unbytes (s : ByteArray) (hs : s.size ≤ 7) (w : World) : Calls Tryd.prog 35 #[.string s] w fun e w' => e = .returned (.int .u64 (unK s.data.toList : Nat)) ∧ w = w' := by
  go_enter Tryd.func35, Tryd.ntmps35
  go_wp2_with fail
  go_loop [3, 4] (fun v3 v4 => ∃ i : Nat, i ≤ s.size ∧ v4 = .int .i64 i ∧ v3 = .int .u64 (unK (s.data.toList.take i) : Nat)) (fun _ v4 => s.size - (intOf v4).toNat)
  case atStart => exact ⟨0, Nat.zero_le _, rfl, rfl⟩
  case round =>
    obtain ⟨i, hi, rfl, rfl⟩ := hrel
    by_cases h1 : i < s.size
    · have hlt := unK_lt i (s.data.toList.take i) (by rw [List.length_take]; simp; omega)
      have hle : 256 ^ i ≤ 256 ^ 6 := Nat.pow_le_pow_right (by omega) (by omega)
      have h6 : (256 : Nat) ^ 6 = 281474976710656 := by decide
      rw [h6] at hle
      have E := Lib.hid (show unK (s.data.toList.take (i + 1)) = 256 * unK (s.data.toList.take i) + s[i].toNat by rw [List.take_succ_eq_append_getElem (by simpa using h1), unK_snoc]; rfl)
      have hx : unK (s.data.toList.take i) < 281474976710656 := by omega
      clear hlt hle h6
      have hbt := byte_lt s[i]
      obtain ⟨x, hxx⟩ : ∃ x, unK (s.data.toList.take i) = x := ⟨_, rfl⟩
      rw [hxx] at hx
      have HXX := Lib.hid hxx
      rw [hxx]
      clear hxx
      go_wp2_with fail
      go_round
      case rel => exact ⟨i + 1, by omega, by simp, by rw [E.out, HXX.out]; simp⟩
      case measure => simp [intOf]; omega
    · obtain rfl : i = s.size := by omega
      have E := Lib.hid (show (unK (s.data.toList.take s.size) : Int) = (unK s.data.toList : Nat) by rw [List.take_of_length_le (by simp)])
      go_wp2_with fail
      go_ret
      exact ⟨ret_int E.out, rfl⟩
theorem unK_prefix {l : List UInt8} {i : Nat} (hi : i < 8) (hl : i < l.length) : unK (l.take i) < 72057594037927936 := by
  have hlt := unK_lt i (l.take i) (by rw [List.length_take]; omega)
  have hle : 256 ^ i ≤ 256 ^ 7 := Nat.pow_le_pow_right (by omega) (by omega)
  have h6 : (256 : Nat) ^ 7 = 72057594037927936 := by decide
  omega
set_option maxRecDepth 100000 in
set_option maxHeartbeats 1600000 in
theorem ref_unbytes8 (s : ByteArray) (hs : s.size ≤ 8) (w : World) : Calls Tryd.prog 35 #[.string s] w fun e w' => e = .returned (.int .u64 (unK s.data.toList : Nat)) ∧ w = w' := by
  go_enter Tryd.func35, Tryd.ntmps35
  go_wp2_with fail
  go_loop [3, 4] (fun v3 v4 => ∃ i : Nat, i ≤ s.size ∧ v4 = .int .i64 i ∧ v3 = .int .u64 (unK (s.data.toList.take i) : Nat)) (fun _ v4 => s.size - (intOf v4).toNat)
  case atStart => exact ⟨0, Nat.zero_le _, rfl, rfl⟩
  case round =>
    obtain ⟨i, hi, rfl, rfl⟩ := hrel
    by_cases h1 : i < s.size
    · have hx := unK_prefix (l := s.data.toList) (i := i) (by omega) (by simpa using h1)
      have E := Lib.hid (show unK (s.data.toList.take (i + 1)) = 256 * unK (s.data.toList.take i) + s[i].toNat by rw [List.take_succ_eq_append_getElem (by simpa using h1), unK_snoc]; rfl)
      have hbt := byte_lt s[i]
      obtain ⟨x, hxx⟩ : ∃ x, unK (s.data.toList.take i) = x := ⟨_, rfl⟩
      rw [hxx] at hx
      have HXX := Lib.hid hxx
      rw [hxx]
      clear hxx
      go_wp2_with fail
      go_round
      case rel => exact ⟨i + 1, by omega, by simp, by rw [E.out, HXX.out]; simp⟩
      case measure => simp [intOf]; omega
    · obtain rfl : i = s.size := by omega
      have E := Lib.hid (show (unK (s.data.toList.take s.size) : Int) = (unK s.data.toList : Nat) by rw [List.take_of_length_le (by simp)])
      go_wp2_with fail
      go_ret
      exact ⟨ret_int E.out, rfl⟩

end Go.Proofs.YtlkkpgdgnnknpaaDoor
