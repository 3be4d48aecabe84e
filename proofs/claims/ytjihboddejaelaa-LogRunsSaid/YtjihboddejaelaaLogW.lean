/-
  The reference's Read.
-/
import Derived.Test.YtjihboddejaelaaLogS
namespace Go.Proofs.Ytjihboddejaelaa
open Go.RowKit
open Go.BigFrame
set_option linter.unusedVariables false
set_option linter.unusedSimpArgs false

/-- the last i frames are not of page x -/
def LateNot (fs : List Fr) (j : Nat) (x : Int) : Prop := ∀ (i : Nat) (f : Fr), j ≤ i → fs[i]? = some f → (f.n : Int) ≠ x
theorem lastAt_late : ∀ (fs : List Fr) (x : Int), (∀ (i : Nat) (f : Fr), fs[i]? = some f → (f.n : Int) ≠ x) → lastAt fs x = 0
  | [], x, _ => rfl
  | g :: fs, x, h => by
    have h1 := lastAt_late fs x fun i f hf => h (i + 1) f (by rw [List.getElem?_cons_succ]; exact hf)
    have h2 := h 0 g rfl
    rw [lastAt, h1, if_neg (by simp), if_neg h2]
theorem lastAt_found : ∀ (fs : List Fr) (j : Nat) (x : Int) (f : Fr), fs[j]? = some f → (f.n : Int) = x → LateNot fs (j + 1) x → lastAt fs x = j + 1
  | [], j, x, f, hf, _, _ => by simp at hf
  | g :: fs, 0, x, f, hf, hx, hl => by
    have h1 := lastAt_late fs x fun i f hf => hl (i + 1) f (by omega) (by rw [List.getElem?_cons_succ]; exact hf)
    cases hf
    rw [lastAt, h1, if_neg (by simp), if_pos hx]
  | g :: fs, j + 1, x, f, hf, hx, hl => by
    rw [List.getElem?_cons_succ] at hf
    have h1 := lastAt_found fs j x f hf hx fun i f hi hf => hl (i + 1) f (by omega) (by rw [List.getElem?_cons_succ]; exact hf)
    rw [lastAt, h1, if_pos (by omega)]
theorem RP.downC {w : World} {b : List (Option Nat)} {rd : Nat} {D : Dk} (h : RP w b rd D) : w.cell? ⟨rd, 3 + 1, none⟩ = some (.bool D.down) := h.cells.1

set_option maxRecDepth 100000 in
set_option maxHeartbeats 6400000 in
theorem ref_Read (b : List (Option Nat)) (rd r : Nat) (c : List (Option Nat)) (L : Lg) (n : Int) (w : World) (h : LQ w b rd r c L) (hok : L.D.ok) (hws : L.D.waits.length ≤ 1000000000) (hd : L.D.down = false) (hlen : L.fs.length ≤ 100000) :
    Calls Try.prog 29 #[.pointer (some ⟨r, 0, none⟩), .int .i64 n] w fun e w' => e = .returned (.tuple #[.string (L.readS n), .int .i64 (L.readE n)]) ∧ Below w.heap.size w w' := by
  have HL := Lib.hid h
  obtain ⟨x0, x2, x3, x4, x5, xz, xf⟩ := h.cells
  obtain ⟨A, m, x1, hm, hF⟩ := h.frames
  have xd := h.disk.cells.1
  rw [hd] at xd
  have IN := Lib.hid (fun w1 => ref_inB n 0 2147483647 w1)
  have HFS := Lib.hid hF
  have OK := Lib.hid hok
  by_cases hn : 0 ≤ n ∧ n ≤ 2147483647
  · rw [inB_yes hn.1 hn.2] at IN
    have SN := Lib.hid (fun w1 (h1 : RP w1 b rd L.D) => refd_Seen rd L.D b 0 w1 h1 hok (by omega) hws)
    rw [show ((0 : Nat) : Int) = 0 from rfl] at SN
    have hl0 := hok.seen 0
    have R1 := Lib.hid (show lastAt L.fs n ≠ 0 → L.readS n = ((L.fs[lastAt L.fs n - 1]?).map (·.text)).getD ⟨#[]⟩ ∧ L.readE n = 0 from fun hl => ⟨(if_pos ⟨hn.1, hn.2, hd⟩).trans (if_pos hl), (if_pos hn).trans ((if_neg (by rw [hd]; decide)).trans (if_pos hl))⟩)
    have R2 := Lib.hid (show lastAt L.fs n = 0 → n < ((L.D.seen 0).length / 1024 : Nat) → L.readS n = bsOf (partL (L.D.seen 0) (1024 * n.toNat) 1024) ∧ L.readE n = 0 from fun hl hx => ⟨(if_pos ⟨hn.1, hn.2, hd⟩).trans ((if_neg (fun h => h hl)).trans (if_pos hx)), (if_pos hn).trans ((if_neg (by rw [hd]; decide)).trans ((if_neg (fun h => h hl)).trans (if_pos hx)))⟩)
    have R3 := Lib.hid (show lastAt L.fs n = 0 → ¬ n < ((L.D.seen 0).length / 1024 : Nat) → L.readS n = ⟨#[]⟩ ∧ L.readE n = 7 from fun hl hx => ⟨(if_pos ⟨hn.1, hn.2, hd⟩).trans ((if_neg (fun h => h hl)).trans (if_neg hx)), (if_pos hn).trans ((if_neg (by rw [hd]; decide)).trans ((if_neg (fun h => h hl)).trans (if_neg hx)))⟩)
    obtain ⟨l, hl⟩ : ∃ l, L.D.seen 0 = l := ⟨_, rfl⟩
    rw [hl] at SN R2 R3 hl0
    obtain ⟨s, hs⟩ : ∃ s, bsOf l = s := ⟨_, rfl⟩
    have hz : s.size = l.length := by rw [← hs, bsOf_size]
    rw [hs] at SN
    rw [← hz] at R2 R3 hl0
    obtain ⟨q, rfl⟩ : ∃ q : Nat, n = q := ⟨n.toNat, (Int.toNat_of_nonneg hn.1).symm⟩
    have HSS := Lib.hid hs
    have HN := Lib.hid hn
    have HZ := Lib.hid hl0
    have HLL := Lib.hid hlen
    clear h hok hws hF hl hs hz hn hl0
    go_enter Try.func29, Try.ntmps29
    go_wp2_with (go_at_call 80; refine (IN.out _).mono ?_; rintro e w1 ⟨rfl, rfl⟩)
    go_loopw [6] (fun v6 wr => ∃ j : Nat, j ≤ L.fs.length ∧ v6 = .int .i64 ((j : Int) - 1) ∧ LateNot L.fs j q ∧ wr = w) (fun v6 _ => (intOf v6 + 1).toNat)
    case atStart => exact ⟨L.fs.length, Nat.le_refl _, by simp, fun i f hi hf => by have := (List.getElem?_eq_some_iff.1 hf).1; omega, rfl⟩
    case round =>
      obtain ⟨j, hj, rfl, hlate, rfl⟩ := hrel
      have HLT := Lib.hid hlate
      clear hlate
      by_cases hj0 : j = 0
      · have L0 := Lib.hid (lastAt_late L.fs q fun i f hf => HLT.out i f (by omega) hf)
        subst hj0
        have wr2 : wrap64 ((s.size : Int) / 1024) = (s.size : Int) / 1024 := IntWalk.wrap64_in _ (by have := HZ.out; omega)
        have wr3 : wrap64 (1024 * (q : Int)) = 1024 * (q : Int) := IntWalk.wrap64_in _ (by have := HN.out; omega)
        have wr4 : wrap64 (1024 * (q : Int) + 1024) = 1024 * (q : Int) + 1024 := IntWalk.wrap64_in _ (by have := HN.out; omega)
        by_cases hx : q < s.size / 1024
        · have RR := Lib.hid (R2.out L0.out (by omega))
          have E := Lib.hid (show s.extract (1024 * q) (1024 * q + 1024) = bsOf (partL l (1024 * (q : Int).toNat) 1024) by
            rw [← HSS.out, Int.toNat_natCast]; exact extr_mid l (1024 * q) 1024)
          have e1 : decide ((s.size : Int) / 1024 ≤ (q : Int)) = false := by simp; omega
          have e2 : 1024 * q + 1024 ≤ s.size := by omega
          go_wp2_with (go_at_call 62; (with_reducible refine (SN.out _ HL.out.disk).mono ?_); rintro e w3 ⟨rfl, hb3⟩)
          go_ret2
          rw [RR.out.1, RR.out.2, ← E.out]
          exact ⟨rfl, hb3⟩
        · have RR := Lib.hid (R3.out L0.out (by omega))
          have e1 : decide ((s.size : Int) / 1024 ≤ (q : Int)) = true := by simp; omega
          go_wp2_with (go_at_call 62; (with_reducible refine (SN.out _ HL.out.disk).mono ?_); rintro e w3 ⟨rfl, hb3⟩)
          go_ret2
          rw [RR.out.1, RR.out.2]
          exact ⟨rfl, hb3⟩
      · obtain ⟨i, rfl⟩ : ∃ i, j = i + 1 := ⟨j - 1, by omega⟩
        have hi : i < L.fs.length := by omega
        obtain ⟨f, hf⟩ : ∃ f, L.fs[i]? = some f := ⟨_, List.getElem?_eq_getElem hi⟩
        obtain ⟨bk, off, rfl, hbz, hcc⟩ := HFS.out.2 (by omega)
        obtain ⟨c0, c1⟩ := hcc i f hf
        have HFF := Lib.hid hf
        rw [show (((i + 1 : Nat) : Int) - 1) = (i : Int) by omega]
        clear hcc hf hj0 hj
        by_cases hx : f.n = q
        · have L0 := Lib.hid (lastAt_found L.fs i q f HFF.out (by omega) HLT.out)
          have RR := R1.out (by rw [L0.out]; omega)
          rw [L0.out, show i + 1 - 1 = i from rfl, HFF.out] at RR
          have RQ := Lib.hid RR
          have e1 : (f.n : Int) = (q : Int) := by omega
          rw [e1] at c0
          clear RR
          go_wp2_with fail
          go_ret2
          rw [RQ.out.1, RQ.out.2]
          exact ⟨rfl, Below.refl _ _⟩
        · have e1 : ((f.n : Int) == (q : Int)) = false := by rw [beq_eq_false_iff_ne]; omega
          go_wp2_with fail
          go_roundw
          case rel => exact ⟨i, by omega, rfl, fun j g hj hg => by
            rcases Nat.eq_or_lt_of_le hj with e | e
            · subst e; rw [HFF.out] at hg; cases hg; omega
            · exact HLT.out j g e hg, by trivial⟩
          case measure => simp [intOf]
  · rw [inB_no hn] at IN
    have EA : L.readS n = ⟨#[]⟩ ∧ L.readE n = 1 := ⟨if_neg (fun h => hn ⟨h.1, h.2.1⟩), if_neg hn⟩
    rw [EA.1, EA.2]
    clear EA hn h hok hws hF
    go_enter Try.func29, Try.ntmps29
    go_wp2_with (go_at_call 80; refine (IN.out _).mono ?_; rintro e w1 ⟨rfl, rfl⟩)
    go_ret2
    exact ⟨rfl, Below.refl _ _⟩

end Go.Proofs.Ytjihboddejaelaa
