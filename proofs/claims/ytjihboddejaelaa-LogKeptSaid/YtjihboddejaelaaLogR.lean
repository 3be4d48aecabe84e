/-
  Read and Checkpoint, as a log's cells tell them, and in plain Lean. No program in sight.
-/
import Derived.Test.YtjihboddejaelaaLogQ
namespace Go.Proofs.Ytjihboddejaelaa
open Go.RowKit
set_option linter.unusedVariables false
set_option linter.unusedSimpArgs false

def Rw.at1 (R : Rw) (n : Int) : Int := 64 + ((R.f1 n : Int) - 1) * 1028 + 4
def Rw.readS (R : Rw) (n : Int) : ByteArray :=
  if 0 ≤ n ∧ n ≤ 2147483647 then
    if R.f1 n ≠ 0 then R.D.readS 1 (R.at1 n) 1024
    else if R.D.sizeE 0 ≠ 0 then ⟨#[]⟩ else if R.D.sizeN 0 / 1024 ≤ n then ⟨#[]⟩ else R.D.readS 0 (n * 1024) 1024
  else ⟨#[]⟩
def Rw.readE (R : Rw) (n : Int) : Int :=
  if 0 ≤ n ∧ n ≤ 2147483647 then
    if R.f1 n ≠ 0 then R.D.readE 1 (R.at1 n) 1024
    else if R.D.sizeE 0 ≠ 0 then R.D.sizeE 0 else if R.D.sizeN 0 / 1024 ≤ n then 7 else R.D.readE 0 (n * 1024) 1024
  else 1
def Rw.put1 (R : Rw) (m : Nat) : Rw := if R.f1 m = 0 then R else if R.readE m ≠ 0 then R else { R with D := R.D.write 0 (m * 1024 : Nat) (R.readS m) }
def Rw.put1E (R : Rw) (m : Nat) : Int := if R.f1 m = 0 then 0 else if R.readE m ≠ 0 then R.readE m else R.D.writeE 0 (m * 1024 : Nat) (R.readS m)
def Rw.puts : Nat → Nat → Rw → Rw × Int
  | 0, _, R => (R, 0)
  | k + 1, m, R => if R.put1E m = 0 then Rw.puts k (m + 1) (R.put1 m) else (R.put1 m, R.put1E m)
def checkR (R : Rw) (p : Nat) : Nat → Rw
  | 0 => R
  | 1 => { R with D := R.D.cutD 0 (p * 1024 : Nat) }
  | 2 => { R with D := (R.D.cutD 0 (p * 1024 : Nat)).sync 0 }
  | _ => ({ R with D := (R.D.cutD 0 (p * 1024 : Nat)).sync 0 } : Rw).tell 0 p
def checkEs (R : Rw) (p : Nat) : Nat → Int
  | 0 => R.D.cutE 0 (p * 1024 : Nat)
  | 1 => (R.D.cutD 0 (p * 1024 : Nat)).syncE 0
  | _ => ({ R with D := (R.D.cutD 0 (p * 1024 : Nat)).sync 0 } : Rw).tellE 0 p
def Rw.check3 (R : Rw) : Rw × Int :=
  let C := checkR R R.np (upTo (checkEs R R.np) 3).1
  if (upTo (checkEs R R.np) 3).2 = 0 then ({ C with nf := 0, np := C.kp, f1 := fun _ => 0, kf := 0, kp := C.kp, f2 := fun _ => 0 }, 0) else (C, (upTo (checkEs R R.np) 3).2)
def Rw.checkpoint (R : Rw) : Rw × Int :=
  if R.nf ≠ R.kf then (R, 11) else if R.nf = 0 then (R, 0)
  else if (Rw.puts R.np 0 R).2 ≠ 0 then Rw.puts R.np 0 R else (Rw.puts R.np 0 R).1.check3

/-- a frame's text is read -/
theorem frame_read {L : Lg} (h : L.ok) {i : Nat} {f : Fr} (hf : L.fs[i]? = some f) : partL (L.D.seen 1) (64 + 1028 * i + 4) 1024 = f.text.data.toList := by
  have h1 := h.lies i f hf
  have h2 := (h.frames f (List.mem_of_getElem? hf)).2
  rw [← partL_part (L.D.seen 1) (64 + 1028 * i) 1028 4 1024 (by omega), h1]
  unfold partL Fr.bytes
  rw [List.drop_append_of_le_length (by rw [beK_len]; omega), List.drop_of_length_le (by rw [beK_len]; omega), List.nil_append, List.take_of_length_le (by rw [Array.length_toList]; show f.text.size ≤ _; omega)]
theorem rw_at {L : Lg} (h : L.ok) (hd : L.D.down = false) {n : Int} (hn : lastAt L.fs n ≠ 0) : L.rw.D.readE 1 (L.rw.at1 n) 1024 = 0 ∧ L.rw.D.readS 1 (L.rw.at1 n) 1024 = ((L.fs[lastAt L.fs n - 1]?).map (·.text)).getD ⟨#[]⟩ := by
  obtain ⟨f, hf, _⟩ := lastAt_get L.fs n hn
  have h1 := h.there hf
  have h2 := h.disk.seen 1
  have e1 : L.rw.at1 n = (64 + 1028 * (lastAt L.fs n - 1) + 4 : Nat) := by
    unfold Rw.at1
    show 64 + ((lastAt L.fs n : Int) - 1) * 1028 + 4 = _
    omega
  have hF : fitsF 1 (64 + 1028 * (lastAt L.fs n - 1) + 4 : Nat) 1024 := by unfold fitsF; omega
  rw [e1, hf]
  unfold Dk.readE Dk.readS
  rw [if_pos hF]
  constructor
  · show (if L.D.down = true then 2 else if ((64 + 1028 * (lastAt L.fs n - 1) + 4 : Nat) : Int) + 1024 ≤ ((L.D.seen 1).length : Int) then 0 else 3) = (0 : Int)
    rw [if_neg (by rw [hd]; decide), if_pos (by omega)]
  · rw [if_pos ⟨hF, hd, by show ((64 + 1028 * (lastAt L.fs n - 1) + 4 : Nat) : Int) + 1024 ≤ ((L.D.seen 1).length : Int); omega⟩]
    show bsOf (partL (L.D.seen 1) (64 + 1028 * (lastAt L.fs n - 1) + 4) 1024) = f.text
    rw [frame_read h hf, bsOf_of]
theorem rw_read {L : Lg} (h : L.ok) (hd : L.D.down = false) (n : Int) : L.readS n = L.rw.readS n ∧ L.readE n = L.rw.readE n := by
  by_cases hn : 0 ≤ n ∧ n ≤ 2147483647
  · have hn2 : 0 ≤ n ∧ n ≤ 2147483647 ∧ L.D.down = false := ⟨hn.1, hn.2, hd⟩
    have nd : ¬ (L.D.down = true) := by rw [hd]; decide
    by_cases hl : lastAt L.fs n ≠ 0
    · obtain ⟨r1, r2⟩ := rw_at h hd hl
      have hl2 : L.rw.f1 n ≠ 0 := hl
      exact ⟨((if_pos hn2).trans (if_pos hl)).trans (r2.symm.trans ((if_pos hn).trans (if_pos hl2)).symm), ((if_pos hn).trans ((if_neg nd).trans (if_pos hl))).trans (r1.symm.trans ((if_pos hn).trans (if_pos hl2)).symm)⟩
    · have h0 := h.disk.seen 0
      have hl2 : ¬ L.rw.f1 n ≠ 0 := hl
      have s1 : L.rw.D.sizeE 0 = 0 := (if_pos (show (0 : Int) ≤ 0 ∧ (0 : Int) < 2 by omega)).trans (if_neg nd)
      have s1' : ¬ (L.rw.D.sizeE 0 ≠ 0) := fun h2 => h2 s1
      have s2 : L.rw.D.sizeN 0 = ((L.D.seen 0).length : Int) := if_pos ⟨by omega, by omega, hd⟩
      by_cases hx : n < ((L.D.seen 0).length / 1024 : Nat)
      · have hF : fitsF 0 (n * 1024) 1024 := by unfold fitsF; omega
        have hx2 : ¬ (L.rw.D.sizeN 0 / 1024 ≤ n) := by rw [s2]; omega
        have hle : n * 1024 + 1024 ≤ ((L.D.seen 0).length : Int) := by omega
        have q1 : L.rw.D.readE 0 (n * 1024) 1024 = 0 := (if_pos hF).trans ((if_neg nd).trans (if_pos hle))
        have q2 : L.rw.D.readS 0 (n * 1024) 1024 = bsOf (partL (L.D.seen 0) (1024 * n.toNat) 1024) := by
          refine (if_pos ⟨hF, hd, hle⟩).trans ?_
          show bsOf (((L.D.seen 0).drop (n * 1024).toNat).take 1024) = bsOf (((L.D.seen 0).drop (1024 * n.toNat)).take 1024)
          rw [show (n * 1024).toNat = 1024 * n.toNat by omega]
        exact ⟨((if_pos hn2).trans ((if_neg hl).trans (if_pos hx))).trans (q2.symm.trans ((if_pos hn).trans ((if_neg hl2).trans ((if_neg s1').trans (if_neg hx2)))).symm),
          ((if_pos hn).trans ((if_neg nd).trans ((if_neg hl).trans (if_pos hx)))).trans (q1.symm.trans ((if_pos hn).trans ((if_neg hl2).trans ((if_neg s1').trans (if_neg hx2)))).symm)⟩
      · have hx2 : L.rw.D.sizeN 0 / 1024 ≤ n := by rw [s2]; omega
        exact ⟨((if_pos hn2).trans ((if_neg hl).trans (if_neg hx))).trans ((if_pos hn).trans ((if_neg hl2).trans ((if_neg s1').trans (if_pos hx2)))).symm,
          ((if_pos hn).trans ((if_neg nd).trans ((if_neg hl).trans (if_neg hx)))).trans ((if_pos hn).trans ((if_neg hl2).trans ((if_neg s1').trans (if_pos hx2)))).symm⟩
  · exact ⟨(if_neg (fun h2 => hn ⟨h2.1, h2.2.1⟩)).trans (if_neg hn).symm, (if_neg hn).trans (if_neg hn).symm⟩

theorem write_down {D : Dk} {f a : Int} {s : ByteArray} (hd : D.down = false) (he : D.writeE f a s = 0) : (D.write f a s).down = false := by
  unfold Dk.writeE at he
  unfold Dk.write
  split at he
  · rename_i hf
    rw [if_pos hf]
    have hs := (turnE_zero D).1 he
    unfold Dk.change
    rw [if_neg hs]
    show D.turn.down = false
    unfold Dk.turn
    rw [if_neg hs]; exact hd
  · cases he
theorem rw_put1 {L : Lg} (h : L.ok) (hd : L.D.down = false) (m : Nat) : ({ L with D := L.put1 L.D m } : Lg).rw = L.rw.put1 m ∧ L.put1E L.D m = L.rw.put1E m := by
  unfold Lg.put1 Rw.put1 Lg.put1E Rw.put1E
  by_cases hl : lastAt L.fs m ≠ 0
  · have hl2 : ¬ L.rw.f1 m = 0 := hl
    rw [if_pos hl, if_pos hl, if_neg hl2, if_neg hl2]
    obtain ⟨r1, r2⟩ := rw_read h hd m
    by_cases hm : m ≤ 2147483647
    · have hn : 0 ≤ (m : Int) ∧ (m : Int) ≤ 2147483647 := by omega
      have e1 : L.rw.readS m = ((L.fs[lastAt L.fs m - 1]?).map (·.text)).getD ⟨#[]⟩ := by
        rw [← r1]; unfold Lg.readS; rw [if_pos ⟨hn.1, hn.2, hd⟩, if_pos hl]
      have e2 : L.rw.readE m = 0 := by
        rw [← r2]; unfold Lg.readE; rw [if_pos hn, if_neg (by rw [hd]; decide), if_pos hl]
      rw [e2, if_neg (by simp), if_neg (by simp), e1, Nat.mul_comm m 1024]
      exact ⟨rfl, rfl⟩
    · have e2 : L.rw.readE m = 1 := by
        rw [← r2]; unfold Lg.readE; rw [if_neg (by omega)]
      have hF : ∀ s : ByteArray, ¬ fitsF 0 (1024 * m : Nat) s.size := fun s => by unfold fitsF; omega
      rw [e2, if_pos (by decide), if_pos (by decide)]
      unfold Dk.write Dk.writeE
      rw [if_neg (hF _), if_neg (hF _)]
      exact ⟨rfl, rfl⟩
  · have hl2 : L.rw.f1 m = 0 := Classical.byContradiction fun h2 => hl h2
    rw [if_neg hl, if_neg hl, if_pos hl2, if_pos hl2]
    exact ⟨rfl, rfl⟩
theorem put1_down {L : Lg} (hd : L.D.down = false) (m : Nat) (he : L.put1E L.D m = 0) : (L.put1 L.D m).down = false := by
  unfold Lg.put1E at he
  unfold Lg.put1
  split
  · rename_i hl
    rw [if_pos hl] at he
    exact write_down hd he
  · exact hd
theorem puts_D (L : Lg) (X : Dk) : ∀ (k m : Nat) (D : Dk), ({ L with D := X } : Lg).puts k m D = L.puts k m D
  | 0, m, D => rfl
  | k + 1, m, D => by
    rw [Lg.puts, Lg.puts, puts_D L X k]
    rfl
theorem rw_puts : ∀ (k m : Nat) (L : Lg), L.ok → L.D.down = false → ({ L with D := (L.puts k m L.D).1 } : Lg).rw = (Rw.puts k m L.rw).1 ∧ (L.puts k m L.D).2 = (Rw.puts k m L.rw).2 ∧ ((L.puts k m L.D).2 = 0 → (L.puts k m L.D).1.down = false)
  | 0, m, L, h, hd => ⟨rfl, rfl, fun _ => hd⟩
  | k + 1, m, L, h, hd => by
    obtain ⟨p1, p2⟩ := rw_put1 h hd m
    rw [Lg.puts, Rw.puts, ← p2]
    by_cases he : L.put1E L.D m = 0
    · rw [if_pos he, if_pos he]
      obtain ⟨o1, o2⟩ := put1_ok L h.disk m
      have ih := rw_puts k (m + 1) { L with D := L.put1 L.D m } (h.same o1 o2) (put1_down hd m he)
      rw [puts_D, p1] at ih
      exact ih
    · rw [if_neg he, if_neg he]
      exact ⟨p1, rfl, fun h2 => absurd h2 he⟩
theorem cutE_turn {D : Dk} {f a : Nat} : D.cutE f a = 0 → D.cutE f a = D.turnE := fun h => by
  unfold Dk.cutE at h ⊢
  split
  · rfl
  · rename_i h2; rw [if_neg h2] at h; cases h
theorem rw_check3 {L : Lg} (h : L.ok) : (L.check3 L.D).1.rw = L.rw.check3.1 ∧ (L.check3 L.D).2 = L.rw.check3.2 := by
  have r0 : L.rw.check3 = if (upTo (checkEs L.rw L.rw.np) 3).2 = 0 then ({ checkR L.rw L.rw.np (upTo (checkEs L.rw L.rw.np) 3).1 with nf := 0, np := (checkR L.rw L.rw.np (upTo (checkEs L.rw L.rw.np) 3).1).kp, f1 := fun _ => 0, kf := 0, f2 := fun _ => 0 }, 0) else (checkR L.rw L.rw.np (upTo (checkEs L.rw L.rw.np) 3).1, (upTo (checkEs L.rw L.rw.np) 3).2) := rfl
  have c0 : checkEs L.rw L.rw.np 0 = L.D.cutE 0 (1024 * L.pages : Nat) := by rw [Nat.mul_comm]; rfl
  have c1 : checkEs L.rw L.rw.np 1 = (L.D.cutD 0 (1024 * L.pages : Nat)).turnE := by
    rw [Nat.mul_comm]; exact syncE_fits (f := 0) (by omega)
  have eM : ({ L.rw with D := (L.rw.D.cutD 0 (L.rw.np * 1024 : Nat)).sync 0 } : Rw) = ({ L with D := (L.D.cutD 0 (1024 * L.pages : Nat)).sync 0 } : Lg).rw := by rw [Nat.mul_comm]; rfl
  rw [r0]
  by_cases h0 : L.D.cutE 0 (1024 * L.pages : Nat) ≠ 0
  · have u : upTo (checkEs L.rw L.rw.np) 3 = (1, L.D.cutE 0 (1024 * L.pages : Nat)) := by rw [upTo3, c0, if_pos h0]
    have l1 : L.check3 L.D = ({ L with D := L.D.cutD 0 (1024 * L.pages : Nat) }, L.D.cutE 0 (1024 * L.pages : Nat)) := if_pos h0
    rw [u, l1]
    dsimp only
    rw [if_neg h0]
    refine ⟨?_, rfl⟩
    show _ = ({ L.rw with D := L.rw.D.cutD 0 (L.rw.np * 1024 : Nat) } : Rw)
    rw [Nat.mul_comm 1024 L.pages]; rfl
  · by_cases hs : (L.D.cutD 0 (1024 * L.pages : Nat)).stops
    · have e2 : (L.D.cutD 0 (1024 * L.pages : Nat)).turnE = 2 := if_pos hs
      have u : upTo (checkEs L.rw L.rw.np) 3 = (2, 2) := by rw [upTo3, c0, c1, if_neg h0, e2, if_pos (by decide)]
      have l1 : L.check3 L.D = ({ L with D := (L.D.cutD 0 (1024 * L.pages : Nat)).sync 0 }, 2) := (if_neg h0).trans (if_pos hs)
      rw [u, l1]
      dsimp only
      rw [if_neg (by decide)]
      refine ⟨?_, rfl⟩
      show _ = ({ L.rw with D := (L.rw.D.cutD 0 (L.rw.np * 1024 : Nat)).sync 0 } : Rw)
      rw [eM]
    · have e2 : (L.D.cutD 0 (1024 * L.pages : Nat)).turnE = 0 := (turnE_zero _).2 hs
      have cok : (L.D.cutD 0 (1024 * L.pages : Nat)).ok := Dk.cut_ok h.disk _ _
      have cs : ((L.D.cutD 0 (1024 * L.pages : Nat)).sync 0).seen 1 = L.D.seen 1 := (sync_seen _ 0 (by omega) 1 (by omega)).trans (cut_seen L.D 0 (1024 * L.pages) 1 (by omega))
      have hM : ({ L with D := (L.D.cutD 0 (1024 * L.pages : Nat)).sync 0 } : Lg).ok := h.same (Dk.sync_ok cok 0) cs
      have c2 : checkEs L.rw L.rw.np 2 = ({ L with D := (L.D.cutD 0 (1024 * L.pages : Nat)).sync 0 } : Lg).rw.tellE 0 L.pages := by
        show ({ L.rw with D := (L.rw.D.cutD 0 (L.rw.np * 1024 : Nat)).sync 0 } : Rw).tellE 0 L.rw.np = _
        rw [eM]; rfl
      have c3 : checkR L.rw L.rw.np 3 = ({ L with D := (L.D.cutD 0 (1024 * L.pages : Nat)).sync 0 } : Lg).rw.tell 0 L.pages := by
        show ({ L.rw with D := (L.rw.D.cutD 0 (L.rw.np * 1024 : Nat)).sync 0 } : Rw).tell 0 L.rw.np = _
        rw [eM]; rfl
      have u : upTo (checkEs L.rw L.rw.np) 3 = (3, checkEs L.rw L.rw.np 2) := by rw [upTo3, c0, c1, if_neg h0, e2, if_neg (fun h2 => h2 rfl)]
      have l1 : L.check3 L.D = (if ({ L with D := (L.D.cutD 0 (1024 * L.pages : Nat)).sync 0 } : Lg).tellE 0 L.pages = 0 then ({ ({ L with D := (L.D.cutD 0 (1024 * L.pages : Nat)).sync 0 } : Lg).tell 0 L.pages with fs := [] }, 0) else (({ L with D := (L.D.cutD 0 (1024 * L.pages : Nat)).sync 0 } : Lg).tell 0 L.pages, ({ L with D := (L.D.cutD 0 (1024 * L.pages : Nat)).sync 0 } : Lg).tellE 0 L.pages)) := (if_neg h0).trans (if_neg hs)
      have hMp : L.pages = ({ L with D := (L.D.cutD 0 (1024 * L.pages : Nat)).sync 0 } : Lg).pages := rfl
      rw [u, l1]
      generalize ({ L with D := (L.D.cutD 0 (1024 * L.pages : Nat)).sync 0 } : Lg) = M at *
      dsimp only
      rw [c2, c3, hMp]
      have b1 := rw_tell hM 0 M.pages
      have b2 := rw_tellE hM 0 M.pages
      rw [← b2]
      by_cases ht : M.tellE 0 M.pages = 0
      · rw [if_pos ht] at b1
        rw [if_pos ht, if_pos ht]
        obtain ⟨_, _, g, _⟩ := tell_same M.rw 0 M.pages
        have gk : (M.tell 0 M.pages).kept = 0 ∧ (M.tell 0 M.pages).pages = M.pages ∧ (M.tell 0 M.pages).D = (M.rw.tell 0 M.pages).D ∧ (M.tell 0 M.pages).slot = (M.rw.tell 0 M.pages).slot ∧ (M.tell 0 M.pages).number = (M.rw.tell 0 M.pages).number :=
          ⟨congrArg Rw.kf b1, congrArg Rw.kp b1, congrArg Rw.D b1, congrArg Rw.slot b1, congrArg Rw.number b1⟩
        refine ⟨?_, rfl⟩
        exact rw_eq gk.2.2.1 rfl (gk.2.1.trans g.symm) (fun x => rfl) gk.1 (gk.2.1.trans g.symm) (fun x => by show lastAt (List.take _ []) x = 0; rw [List.take_nil]; rfl) gk.2.2.2.1 gk.2.2.2.2
      · rw [if_neg ht] at b1
        rw [if_neg ht, if_neg ht]
        exact ⟨b1, rfl⟩
theorem check3_D (L : Lg) (X D : Dk) : ({ L with D := X } : Lg).check3 D = L.check3 D := rfl
theorem rw_checkpoint {L : Lg} (h : L.ok) (hd : L.D.down = false) : L.checkpoint.1.rw = L.rw.checkpoint.1 ∧ L.checkpoint.2 = L.rw.checkpoint.2 := by
  obtain ⟨q1, q2, q3⟩ := rw_puts L.pages 0 L h hd
  obtain ⟨o1, o2⟩ := puts_ok L L.pages 0 L.D h.disk
  by_cases h1 : L.fs.length ≠ L.kept
  · have a1 : L.checkpoint = (L, 11) := if_pos h1
    have a2 : L.rw.checkpoint = (L.rw, 11) := if_pos (show L.rw.nf ≠ L.rw.kf from h1)
    rw [a1, a2]; exact ⟨rfl, rfl⟩
  · have h1' : L.fs.length = L.kept := Classical.byContradiction h1
    have m1 : ¬ (L.rw.nf ≠ L.rw.kf) := h1
    by_cases h2 : L.kept = 0
    · have a1 : L.checkpoint = (L, 0) := (if_neg h1).trans (if_pos h2)
      have a2 : L.rw.checkpoint = (L.rw, 0) := (if_neg m1).trans (if_pos (show L.rw.nf = 0 from h1'.trans h2))
      rw [a1, a2]; exact ⟨rfl, rfl⟩
    · have m2 : ¬ (L.rw.nf = 0) := fun e => h2 (h1'.symm.trans e)
      have np : L.rw.np = L.pages := rfl
      by_cases h3 : (L.puts L.pages 0 L.D).2 ≠ 0
      · have a1 : L.checkpoint = ({ L with D := (L.puts L.pages 0 L.D).1 }, (L.puts L.pages 0 L.D).2) := (if_neg h1).trans ((if_neg h2).trans (if_pos h3))
        have a2 : L.rw.checkpoint = Rw.puts L.rw.np 0 L.rw := (if_neg m1).trans ((if_neg m2).trans (if_pos (by rw [np, ← q2]; exact h3)))
        rw [a1, a2]
        exact ⟨q1, q2⟩
      · have a1 : L.checkpoint = L.check3 (L.puts L.pages 0 L.D).1 := (if_neg h1).trans ((if_neg h2).trans (if_neg h3))
        have a2 : L.rw.checkpoint = (Rw.puts L.rw.np 0 L.rw).1.check3 := (if_neg m1).trans ((if_neg m2).trans (if_neg (by rw [np, ← q2]; exact h3)))
        rw [a1, a2, np, ← q1]
        exact rw_check3 (h.same o1 o2)

end Go.Proofs.Ytjihboddejaelaa
