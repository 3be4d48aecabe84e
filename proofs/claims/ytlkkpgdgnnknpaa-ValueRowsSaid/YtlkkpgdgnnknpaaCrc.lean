/-
  CRC-32 as plain mathematics; one byte that is another one is told. No program in sight.
-/
import Derived.Test.YtlkkpgdgnnknpaaWords
namespace Go.Proofs.Ytlkkpgdgnnknpaa

/-- one bit -/
def crcBit (c : Nat) : Nat := if c % 2 = 1 then (c / 2) ^^^ 3988292384 else c / 2
def crcBits : Nat → Nat → Nat
  | 0, c => c
  | k + 1, c => crcBits k (crcBit c)
theorem crcBits_succ : ∀ (k c : Nat), crcBits (k + 1) c = crcBit (crcBits k c)
  | 0, _ => rfl
  | k + 1, c => by rw [crcBits, crcBits_succ k (crcBit c)]; rfl
def crcByte (c b : Nat) : Nat := crcBits 8 (c ^^^ b)
def crcGo (c : Nat) (l : List UInt8) : Nat := l.foldl (fun c b => crcByte c b.toNat) c
/-- the sum of bytes -/
def crcN (l : List UInt8) : Nat := 4294967295 - crcGo 4294967295 l

theorem crcBit_lt {c : Nat} (h : c < 4294967296) : crcBit c < 4294967296 := by
  unfold crcBit
  split
  · exact Nat.xor_lt_two_pow (n := 32) (by omega) (by omega)
  · omega
theorem crcBits_lt : ∀ (k : Nat) {c : Nat}, c < 4294967296 → crcBits k c < 4294967296
  | 0, _, h => h
  | k + 1, _, h => crcBits_lt k (crcBit_lt h)
theorem crcByte_lt {c b : Nat} (h : c < 4294967296) (hb : b < 256) : crcByte c b < 4294967296 := crcBits_lt 8 (Nat.xor_lt_two_pow (n := 32) (by omega) (by omega))
theorem crcGo_lt : ∀ (l : List UInt8) {c : Nat}, c < 4294967296 → crcGo c l < 4294967296
  | [], _, h => h
  | b :: l, _, h => crcGo_lt l (crcByte_lt h (by have := b.toNat_lt; omega))
theorem crcGo_snoc (c : Nat) (l : List UInt8) (b : UInt8) : crcGo c (l ++ [b]) = crcByte (crcGo c l) b.toNat := by simp [crcGo]
theorem crcGo_cons (c : Nat) (l : List UInt8) (b : UInt8) : crcGo c (b :: l) = crcGo (crcByte c b.toNat) l := rfl
theorem crcGo_append (c : Nat) (l m : List UInt8) : crcGo c (l ++ m) = crcGo (crcGo c l) m := by simp [crcGo]
theorem crcN_lt (l : List UInt8) : crcN l < 4294967296 := by unfold crcN; omega

theorem xor_cancel {a b p : Nat} (h : a ^^^ p = b ^^^ p) : a = b := by
  have := congrArg (· ^^^ p) h
  simpa [Nat.xor_assoc] using this
theorem poly_top {x : Nat} (hx : x < 2147483648) : 2147483648 ≤ x ^^^ 3988292384 := by
  have h1 : (x ^^^ 3988292384).testBit 31 = true := by
    rw [Nat.testBit_xor, Nat.testBit_lt_two_pow (by omega)]; decide
  rcases Nat.lt_or_ge (x ^^^ 3988292384) 2147483648 with h | h
  · rw [Nat.testBit_lt_two_pow (by omega)] at h1; cases h1
  · exact h
theorem crcBit_inj {a b : Nat} (ha : a < 4294967296) (hb : b < 4294967296) (h : crcBit a = crcBit b) : a = b := by
  unfold crcBit at h
  split at h <;> split at h
  · have := xor_cancel h; omega
  · have := poly_top (x := a / 2) (by omega); omega
  · have := poly_top (x := b / 2) (by omega); omega
  · omega
theorem crcBits_inj : ∀ (k : Nat) {a b : Nat}, a < 4294967296 → b < 4294967296 → crcBits k a = crcBits k b → a = b
  | 0, _, _, _, _, h => h
  | k + 1, _, _, ha, hb, h => crcBit_inj ha hb (crcBits_inj k (crcBit_lt ha) (crcBit_lt hb) h)
theorem xor_lt32 {c b : Nat} (h : c < 4294967296) (hb : b < 256) : c ^^^ b < 4294967296 := Nat.xor_lt_two_pow (n := 32) (by omega) (by omega)
theorem crcByte_inj_left {a b x : Nat} (ha : a < 4294967296) (hb : b < 4294967296) (hx : x < 256) (h : crcByte a x = crcByte b x) : a = b :=
  xor_cancel (crcBits_inj 8 (xor_lt32 ha hx) (xor_lt32 hb hx) h)
theorem crcByte_inj_right {a x y : Nat} (ha : a < 4294967296) (hx : x < 256) (hy : y < 256) (h : crcByte a x = crcByte a y) : x = y := by
  have := crcBits_inj 8 (xor_lt32 ha hx) (xor_lt32 ha hy) h
  rw [Nat.xor_comm a x, Nat.xor_comm a y] at this
  exact xor_cancel this
theorem crcGo_inj : ∀ (l : List UInt8) {a b : Nat}, a < 4294967296 → b < 4294967296 → crcGo a l = crcGo b l → a = b
  | [], _, _, _, _, h => h
  | x :: l, _, _, ha, hb, h => crcByte_inj_left ha hb (by have := x.toNat_lt; omega) (crcGo_inj l (crcByte_lt ha (by have := x.toNat_lt; omega)) (crcByte_lt hb (by have := x.toNat_lt; omega)) h)
/-- a byte that is another one is told -/
theorem crcN_told {l : List UInt8} {i : Nat} (hi : i < l.length) {y : UInt8} (h : y ≠ l[i]) : crcN (l.set i y) ≠ crcN l := by
  intro e
  have e1 : l = l.take i ++ l[i] :: l.drop (i + 1) := by rw [← List.drop_eq_getElem_cons hi, List.take_append_drop]
  have e2 : l.set i y = l.take i ++ y :: l.drop (i + 1) := by rw [List.set_eq_take_append_cons_drop, if_pos hi]
  have lt0 := crcGo_lt l (c := 4294967295) (by omega)
  have lt1 := crcGo_lt (l.set i y) (c := 4294967295) (by omega)
  have e3 : crcGo 4294967295 (l.set i y) = crcGo 4294967295 l := by unfold crcN at e; omega
  rw [e2, crcGo_append, crcGo_cons] at e3
  conv at e3 => rhs; rw [e1, crcGo_append, crcGo_cons]
  have lt2 := crcGo_lt (l.take i) (c := 4294967295) (by omega)
  have hy : y.toNat < 256 := by have := y.toNat_lt; omega
  have hz : l[i].toNat < 256 := by have := l[i].toNat_lt; omega
  have := crcByte_inj_right lt2 hy hz (crcGo_inj _ (crcByte_lt lt2 hy) (crcByte_lt lt2 hz) e3)
  exact h (UInt8.toNat_inj.1 this)

end Go.Proofs.Ytlkkpgdgnnknpaa
