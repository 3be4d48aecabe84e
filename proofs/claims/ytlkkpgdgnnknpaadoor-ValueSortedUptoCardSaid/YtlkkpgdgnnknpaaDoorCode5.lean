/-
  value.Unpack.
-/
import Derived.Test.YtlkkpgdgnnknpaaDoorCode4
namespace Go.Proofs.YtlkkpgdgnnknpaaDoor
open Go.RowKit
open Go.BigFrame
set_option linter.unusedVariables false
set_option linter.unusedSimpArgs false

/-- what reading a row's bytes has come to: i values read -/
def Good (s : List UInt8) (i : Nat) (rest : List UInt8) (bad : Bool) (vs : List Val) : Prop :=
  if bad then unpackP s = none else ∃ b r, s = b :: r ∧ b.toNat ≤ 64 ∧ many oneP i r = some (vs, rest)
theorem many_none {one : List UInt8 → Option (Val × List UInt8)} {r : List UInt8} : ∀ {i n : Nat}, i ≤ n → many one i r = none → many one n r = none
  | i, 0, h, e => by have : i = 0 := by omega
                     subst this; exact e
  | i, n + 1, h, e => by
    rcases Nat.lt_or_ge n i with h1 | h1
    · have : i = n + 1 := by omega
      subst this; exact e
    · rw [many, many_none h1 e]; rfl
theorem Good.bad {s rest rest' : List UInt8} {i : Nat} {vs vs' : List Val} (h : Good s i rest false vs) (hi : i < hdB s) (ho : oneP rest = none) : Good s (i + 1) rest' true vs' := by
  obtain ⟨b, r, rfl, hb, hm⟩ := h
  show unpackP (b :: r) = none
  have h1 : many oneP (i + 1) r = none := by rw [many, hm]; simp [ho]
  have h2 := many_none (show i + 1 ≤ b.toNat from hi) h1
  simp only [unpackP, h2]; simp
theorem Good.ok {s rest rest' : List UInt8} {i : Nat} {vs : List Val} {v : Val} (h : Good s i rest false vs) (ho : oneP rest = some (v, rest')) : Good s (i + 1) rest' false (vs ++ [v]) := by
  obtain ⟨b, r, rfl, hb, hm⟩ := h
  refine ⟨b, r, rfl, hb, ?_⟩
  rw [many, hm]; simp [ho]
theorem Good.done {s : List UInt8} {vs : List Val} (h : Good s (hdB s) [] false vs) : unpackP s = some vs := by
  obtain ⟨b, r, rfl, hb, hm⟩ := h
  simp only [unpackP]
  rw [if_pos hb, show b.toNat = hdB (b :: r) from rfl, hm]; rfl
theorem Good.left {s rest : List UInt8} {vs : List Val} (h : Good s (hdB s) rest false vs) (hr : rest ≠ []) : unpackP s = none := by
  obtain ⟨b, r, rfl, hb, hm⟩ := h
  simp only [unpackP]
  rw [if_pos hb, show b.toNat = hdB (b :: r) from rfl, hm]; simp [hr]
theorem Good.start {s : List UInt8} : Good s 0 s.tail (s.isEmpty || decide (64 < hdB s)) [] := by
  cases s with
  | nil => rfl
  | cons b r =>
    by_cases h : 64 < hdB (b :: r)
    · have : ((b :: r : List UInt8).isEmpty || decide (64 < hdB (b :: r))) = true := by simp [h]
      rw [this]
      show unpackP (b :: r) = none
      simp only [unpackP]
      rw [if_neg (by simpa [hdB] using h)]
    · have : ((b :: r : List UInt8).isEmpty || decide (64 < hdB (b :: r))) = false := by simp; omega
      rw [this]
      exact ⟨b, r, rfl, by simpa [hdB] using h, rfl⟩

theorem or_two (a b : Nat) (ha : a < 256) (hb : b < 256) : bits .or .i64 ((a : Int) * 256) (b : Int) = ((256 * a + b : Nat) : Int) := by
  have hx : 256 * a ||| b < 2 ^ 62 := Nat.or_lt_two_pow (by omega) (by omega)
  have h1 : (BitVec.ofInt 64 ((256 * a : Nat) : Int)).toNat = 256 * a := by
    rw [BitVec.ofInt_natCast, BitVec.toNat_ofNat]; exact Nat.mod_eq_of_lt (by omega)
  have h2 : (BitVec.ofInt 64 (b : Int)).toNat = b := by
    rw [BitVec.ofInt_natCast, BitVec.toNat_ofNat]; exact Nat.mod_eq_of_lt (by omega)
  rw [show ((a : Int) * 256) = ((256 * a : Nat) : Int) by omega]
  show IntKind.i64.wrap ((BitVec.ofInt 64 ((256 * a : Nat) : Int) ||| BitVec.ofInt 64 (b : Int)).toNat : Int) = _
  rw [BitVec.toNat_or, h1, h2, ← nat_or_byte _ _ hb]
  exact IntWalk.i64_in _ ⟨by omega, by omega⟩
theorem badN_true (n : Nat) (l : List UInt8) : badN true n l = true := by unfold badN; split <;> rfl
theorem drN_len (n : Nat) (l : List UInt8) : (drN n l).length ≤ l.length := by unfold drN; split <;> simp [List.length_drop]
theorem s64_wrap {n : Nat} (h : n < 18446744073709551616) : s64 n = wrap64 (n : Int) := by unfold s64 wrap64; split <;> omega
/-- the scanner, and the values that were read -/
structure St (w0 : World) (g : Nat) (w : World) (v : Value) (rest : List UInt8) (bad : Bool) (vs : List Val) : Prop where
  sc : Sc w g rest bad
  own : w.ownsRow (g + 1) 38 3 v vs.length (cellsV vs)
  bel : Below g w0 w
section
variable {w0 w w' : World} {g : Nat} {v : Value} {rest rest' : List UInt8} {bad bad' : Bool} {vs : List Val}
theorem St.lt (h : St w0 g w v rest bad vs) : g < w.heap.size := h.sc.lt
theorem St.scan (h : St w0 g w v rest bad vs) (h1 : Sc w' g rest' bad') (h2 : w.grownBy w' (some g)) : St w0 g w' v rest' bad' vs :=
  ⟨h1, h.own.kept h2 (by
    cases e : v.ownBlock with
    | none => exact .inl rfl
    | some k => exact .inr (fun e2 => by cases e2; have := (h.own.lt g e).1; omega)), h.bel.grown h2 (Nat.le_of_lt h.lt) (fun k e => by cases e; exact Nat.le_refl _)⟩
theorem St.step (h : St w0 g w v rest bad vs) (hb : Below w.heap.size w w') : St w0 g w' v rest bad vs := ⟨h.sc.belowS hb, own_keep h.own hb, bel_step h.bel hb (Nat.le_of_lt h.lt)⟩
theorem St.alloc (h : St w0 g w v rest bad vs) (o : Obj) : St w0 g (w.alloc o) v rest bad vs := h.step ((Below.refl _ _).alloc (Nat.le_refl _) _)
theorem St.store (h : St w0 g w v rest bad vs) (b : Bool) : St w0 g (w.setCell ⟨g, 1, none⟩ (.bool b)) v rest b vs := h.scan (h.sc.set 1 (.bool b)) (grownBy_setCell _ _)
theorem St.app (h : St w0 g w v rest bad vs) {v' : Value} {x : Val} (hown : w'.ownsRow (g + 1) 38 3 v' (vs.length + 1) (cellsV vs ++ x.cells)) (hg : w.grownBy w' v.ownBlock) : St w0 g w' v' rest bad (vs ++ [x]) := by
  refine ⟨h.sc.grown hg ?_, ?_, h.bel.grown hg (Nat.le_of_lt h.lt) (fun k e => by have := (h.own.lt k e).1; omega)⟩
  · intro e; have := (h.own.lt g e.symm).1; omega
  · rw [cellsV_append, List.length_append]
    have : cellsV [x] = x.cells := by simp [cellsV]
    rw [this]; exact hown
end
/-- what Unpack hands back -/
def UnpackPost (w : World) (o : Option (List Val)) (e : Ending) (w' : World) : Prop :=
  match o with
  | none => e = .returned (.tuple #[.slice none 0 0, .int .i64 4]) ∧ Below w.heap.size w w'
  | some vs => ∃ v, e = .returned (.tuple #[v, .int .i64 0]) ∧ w'.ownsRow w.heap.size 38 3 v vs.length (cellsV vs) ∧ Below w.heap.size w w'
theorem UnpackPost.bad {w w' : World} {o : Option (List Val)} (h : o = none) (hb : Below w.heap.size w w') : UnpackPost w o (.returned (.tuple #[.slice none 0 0, .int .i64 4])) w' := by
  subst h; exact ⟨rfl, hb⟩
theorem UnpackPost.good {w w' : World} {o : Option (List Val)} {vs : List Val} {v : Value} (h : o = some vs) (hv : w'.ownsRow w.heap.size 38 3 v vs.length (cellsV vs)) (hb : Below w.heap.size w w') : UnpackPost w o (.returned (.tuple #[v, .int .i64 0])) w' := by
  subst h; exact ⟨v, rfl, hv, hb⟩
theorem own_mono {w : World} {b b' : Nat} {e : TypeId} {size : Nat} {v : Value} {n : Nat} {xs : List Value} (h : w.ownsRow b e size v n xs) (hb : b' ≤ b) : w.ownsRow b' e size v n xs := by
  refine ⟨h.1, ?_⟩
  rcases h.2 with h | ⟨g, cap, cur, hv, hbg, r⟩
  · exact .inl h
  · exact .inr ⟨g, cap, cur, hv, Nat.le_trans hb hbg, r⟩

set_option maxRecDepth 100000 in
set_option maxHeartbeats 6400000 in
theorem value_Unpack (l : List UInt8) (w : World) (hl : l.length ≤ 9223372036854775807) :
    Calls Tryd.prog 21 #[.string (bsOf l)] w (UnpackPost w (unpackP l)) := by
  obtain ⟨i0, hi, hz0, hz1, hz2⟩ := info_parts infoValue
  have hsc : Sc (w.alloc (.cells #[.string (bsOf l), .bool false] 48)) w.heap.size l false := Has.new _ _ _
  have hst : St w w.heap.size (w.alloc (.cells #[.string (bsOf l), .bool false] 48)) (.slice none 0 0) l false [] := ⟨hsc, World.ownsRow_nil _ _ _ _, (Below.refl _ _).alloc (Nat.le_refl _) _⟩
  have HST := Lib.hid hst
  clear hsc hst
  obtain ⟨S, hS⟩ : ∃ S, bsOf l = S := ⟨_, rfl⟩
  rw [hS] at HST ⊢
  clear hS
  have N256 := hdB_lt l
  have GS := Lib.hid (Good.start (s := l))
  obtain ⟨N, hN⟩ : ∃ N, hdB l = N := ⟨_, rfl⟩
  rw [hN] at GS N256
  have T1 := Lib.hid (fun w1 h1 => scan_byte w.heap.size l false w1 h1 hl)
  rw [hN] at T1
  have HN := Lib.hid hN
  clear hN
  have HL : l.tail.length ≤ l.length := by simp
  have g0 : w.heap.size < w.heap.size + 1 := by omega
  go_enter Tryd.func21, Tryd.ntmps21
  go_upto_region 3 with (go_at_call 46; (with_reducible refine (T1.out _ HST.out.sc).mono ?_); rintro e w1 ⟨rfl, hs1, hg1⟩; have HS1 := Lib.hid (HST.out.scan hs1 hg1); clear hs1 hg1)
  go_cut [5] (fun s5 wx => s5 = .int .i64 N ∧ St w w.heap.size wx (.slice none 0 0) l.tail (l.isEmpty || decide (64 < N)) [])
  case first =>
    have H := HS1.out
    clear HS1 T1 GS
    cases he : l.isEmpty with
    | true =>
      have e2 : (true || decide (64 < N)) = true := rfl
      rw [he] at H
      obtain ⟨c0, c1⟩ := H.sc.cells2
      have cf := H.sc.frozen
      have cz := H.sc.lt
      have HH := Lib.hid H
      clear H e2
      go_wp2_with fail
      go_meet
      refine ⟨rfl, ?_⟩
      rw [he]
      exact HH.out.store true
    | false =>
      have E2 := Lib.hid (show (false || decide (64 < N)) = decide ((64 : Int) < (N : Int)) by simp; omega)
      rw [he] at H
      obtain ⟨c0, c1⟩ := H.sc.cells2
      have cf := H.sc.frozen
      have cz := H.sc.lt
      have HH := Lib.hid H
      clear H
      go_wp2_with fail
      go_meet
      refine ⟨rfl, ?_⟩
      rw [he, E2.out]
      exact HH.out.store _
  case rest =>
    obtain ⟨rfl, h3⟩ := hcut
    have H3 := Lib.hid h3
    clear HS1 T1 h3
    obtain ⟨bad0, hbad0⟩ : ∃ b, (l.isEmpty || decide (64 < N)) = b := ⟨_, rfl⟩
    rw [hbad0] at H3 GS
    clear hbad0 HST
    go_wp2_with fail
    go_loopw [5, 6] (fun v5 v6 wr => ∃ (i : Nat) (rest : List UInt8) (bad : Bool) (vs : List Val), i ≤ N ∧ v5 = .int .i64 ((N - i : Nat) : Int) ∧ Good l i rest bad vs ∧ rest.length ≤ l.length ∧ vs.length ≤ i ∧ St w w.heap.size wr v6 rest bad vs) (fun v5 _ _ => (intOf v5).toNat)
    case atStart => exact ⟨0, l.tail, bad0, [], Nat.zero_le _, by simp, GS.out, HL, Nat.le_refl _, H3.out⟩
    case round =>
      obtain ⟨i, rest, bad, vs, hiN, rfl, hG, hrl, hvl, hS⟩ := hrel
      have HG := Lib.hid hG; have HS := Lib.hid hS
      clear hG hS H3 GS
      cases bad with
      | true =>
        have ANS := Lib.hid (show unpackP l = none from HG.out)
        obtain ⟨c0, c1⟩ := HS.out.sc.cells2
        have cz := HS.out.lt
        have HB := Lib.hid HS.out.bel
        by_cases hin : i < N
        · have h0 : (0 : Int) < ((N - i : Nat) : Int) := by omega
          go_wp2_with fail
          go_ret2
          exact UnpackPost.bad ANS.out HB.out
        · have h0 : ¬ (0 : Int) < ((N - i : Nat) : Int) := by omega
          go_wp2_with fail
          go_ret2
          exact UnpackPost.bad ANS.out HB.out
      | false =>
        obtain ⟨c0, c1⟩ := HS.out.sc.cells2
        have cz := HS.out.lt
        have cf := HS.out.sc.frozen
        by_cases hin : i < N
        ·
          have h0 : (0 : Int) < ((N - i : Nat) : Int) := by omega
          have hlen : vs.length ≤ 255 := by omega
          have G1 := Lib.hid (show vs.length + 1 ≤ maxLen by unfold maxLen; omega)
          have G2 := Lib.hid (show (vs.length + 1) * 32 ≤ 140737488355328 by omega)
          have HIN := Lib.hid (show i < hdB l by rw [HN.out]; exact hin)
          cases rest with
          | nil =>
            have TB : Hid (∀ w1, Sc w1 w.heap.size ([]) false → Calls Tryd.prog 46 #[.pointer (some ⟨w.heap.size, 0, none⟩)] w1 (ScPost w1 w.heap.size (.int .i64 0) ([]) true)) := fun w1 h1 => by
              have := scan_byte w.heap.size ([]) false w1 h1 (by first | (simp; done) | (simp; omega) | (simp at hrl ⊢; omega))
              exact this
            go_wp2_with (first | (go_at_call 46; (with_reducible refine (TB.out _ HS.out.sc).mono ?_); rintro e waHS1 ⟨rfl, hsa, hga⟩; have HS1 := Lib.hid (HS.out.scan hsa hga); clear hsa hga; obtain ⟨c0, c1⟩ := HS1.out.sc.cells2; have cf := HS1.out.sc.frozen; have cz := HS1.out.lt) | (go_at_call 47; (with_reducible refine (value_None _).mono ?_); rintro e wmHS2 ⟨rfl, hbm⟩; have HS2 := Lib.hid (HS1.out.step hbm); clear hbm) | ((at_builtin; refine wpList_append_src _ rfl (.tmp 45) (.tmp 47) 22 22 rfl ((w.heap.size + 1)) 38 i0 _ 3 32 Tryd.underlying22 hi hz0 hz1 hz2 zeroCellsValue (by decide) (_) (vs.length) (_) rfl ((HS2.out.alloc _).own) (.slice (some ⟨_, 0, none⟩) 1 1) (1) ([.int .i64 0, .int .i64 0, .string ⟨#[]⟩]) rfl (Src.ofSlice _ Tryd.underlying22 ⟨_, 0, none⟩ 1 1 ([.int .i64 0, .int .i64 0, .string ⟨#[]⟩]) rfl (World.news_of_block (heap_alloc_new _ _)) (by simp [Value.oneCell'])) (G1.out) (G2.out) (Nat.succ_le_of_lt (HS2.out.alloc _).lt) ?_; intro v1 w1 hown1 hg1 _ hat1); have HS3 := Lib.hid ((HS2.out.alloc _).app (x := ⟨0, 0, ⟨#[]⟩⟩) hown1 hg1); clear hown1 hg1 hat1))
            go_roundw
            case rel => exact ⟨i + 1, _, _, _, by omega, by congr 1; omega, HG.out.bad HIN.out rfl, by first | (simp; done) | (simp at hrl ⊢; omega) | skip, by first | omega | (simp; omega) | skip, HS3.out⟩
            case measure => simp [intOf]; omega
          | cons k r =>
            have hrl2 : r.length ≤ 9223372036854775807 := by simp at hrl; omega
            have hrl3 : r.length ≤ l.length := by simp at hrl; omega
            have hkb := byte_lt k
            by_cases k0 : k.toNat = 0
            ·
              have TB : Hid (∀ w1, Sc w1 w.heap.size (k :: r) false → Calls Tryd.prog 46 #[.pointer (some ⟨w.heap.size, 0, none⟩)] w1 (ScPost w1 w.heap.size (.int .i64 0) (r) false)) := fun w1 h1 => by
                have := scan_byte w.heap.size (k :: r) false w1 h1 (by first | (simp; done) | (simp; omega) | (simp at hrl ⊢; omega))
                rw [show hdB (k :: r) = 0 from k0] at this; exact this
              have HN0 := Lib.hid (show oneP (k :: r) = some (⟨0, 0, ⟨#[]⟩⟩, r) by simp only [oneP]; rw [if_pos k0])
              clear k0
              go_wp2_with (first | (go_at_call 46; (with_reducible refine (TB.out _ HS.out.sc).mono ?_); rintro e waHS1 ⟨rfl, hsa, hga⟩; have HS1 := Lib.hid (HS.out.scan hsa hga); clear hsa hga; obtain ⟨c0, c1⟩ := HS1.out.sc.cells2; have cf := HS1.out.sc.frozen; have cz := HS1.out.lt) | (go_at_call 47; (with_reducible refine (value_None _).mono ?_); rintro e wmHS2 ⟨rfl, hbm⟩; have HS2 := Lib.hid (HS1.out.step hbm); clear hbm) | ((at_builtin; refine wpList_append_src _ rfl (.tmp 45) (.tmp 47) 22 22 rfl ((w.heap.size + 1)) 38 i0 _ 3 32 Tryd.underlying22 hi hz0 hz1 hz2 zeroCellsValue (by decide) (_) (vs.length) (_) rfl ((HS2.out.alloc _).own) (.slice (some ⟨_, 0, none⟩) 1 1) (1) ([.int .i64 0, .int .i64 0, .string ⟨#[]⟩]) rfl (Src.ofSlice _ Tryd.underlying22 ⟨_, 0, none⟩ 1 1 ([.int .i64 0, .int .i64 0, .string ⟨#[]⟩]) rfl (World.news_of_block (heap_alloc_new _ _)) (by simp [Value.oneCell'])) (G1.out) (G2.out) (Nat.succ_le_of_lt (HS2.out.alloc _).lt) ?_; intro v1 w1 hown1 hg1 _ hat1); have HS3 := Lib.hid ((HS2.out.alloc _).app (x := ⟨0, 0, ⟨#[]⟩⟩) hown1 hg1); clear hown1 hg1 hat1))
              go_roundw
              case rel => exact ⟨i + 1, _, _, _, by omega, by congr 1; omega, HG.out.ok HN0.out, by first | (simp; done) | (simp at hrl ⊢; omega) | skip, by first | omega | (simp; omega) | skip, HS3.out⟩
              case measure => simp [intOf]; omega
            · by_cases k1 : k.toNat = 1
              ·
                have TB : Hid (∀ w1, Sc w1 w.heap.size (k :: r) false → Calls Tryd.prog 46 #[.pointer (some ⟨w.heap.size, 0, none⟩)] w1 (ScPost w1 w.heap.size (.int .i64 1) (r) false)) := fun w1 h1 => by
                  have := scan_byte w.heap.size (k :: r) false w1 h1 (by first | (simp; done) | (simp; omega) | (simp at hrl ⊢; omega))
                  rw [show hdB (k :: r) = 1 from k1] at this; exact this
                have K1 := Lib.hid k1
                clear k1 k0
                cases r with
                | nil =>
                  have TC : Hid (∀ w1, Sc w1 w.heap.size ([]) false → Calls Tryd.prog 46 #[.pointer (some ⟨w.heap.size, 0, none⟩)] w1 (ScPost w1 w.heap.size (.int .i64 0) ([]) true)) := fun w1 h1 => by
                    have := scan_byte w.heap.size ([]) false w1 h1 (by first | (simp; done) | (simp; omega) | (simp at hrl ⊢; omega))
                    exact this
                  go_wp2_with (first | (go_at_call 46; (with_reducible refine (TB.out _ HS.out.sc).mono ?_); rintro e waHS1 ⟨rfl, hsa, hga⟩; have HS1 := Lib.hid (HS.out.scan hsa hga); clear hsa hga; obtain ⟨c0, c1⟩ := HS1.out.sc.cells2; have cf := HS1.out.sc.frozen; have cz := HS1.out.lt) | (go_at_call 46; (with_reducible refine (TC.out _ HS1.out.sc).mono ?_); rintro e waHS2 ⟨rfl, hsa, hga⟩; have HS2 := Lib.hid (HS1.out.scan hsa hga); clear hsa hga; obtain ⟨c0, c1⟩ := HS2.out.sc.cells2; have cf := HS2.out.sc.frozen; have cz := HS2.out.lt; have HS2s := Lib.hid (HS2.out.store true)) | (go_at_call 48; (with_reducible refine (value_Flag false _).mono ?_); rintro e wmHS3 ⟨rfl, hbm⟩; have HS3 := Lib.hid (HS2s.out.step hbm); clear hbm) | ((at_builtin; refine wpList_append_src _ rfl (.tmp 64) (.tmp 68) 22 22 rfl ((w.heap.size + 1)) 38 i0 _ 3 32 Tryd.underlying22 hi hz0 hz1 hz2 zeroCellsValue (by decide) (_) (vs.length) (_) rfl ((HS3.out.alloc _).own) (.slice (some ⟨_, 0, none⟩) 1 1) (1) ([.int .i64 1, .int .i64 0, .string ⟨#[]⟩]) rfl (Src.ofSlice _ Tryd.underlying22 ⟨_, 0, none⟩ 1 1 ([.int .i64 1, .int .i64 0, .string ⟨#[]⟩]) rfl (World.news_of_block (heap_alloc_new _ _)) (by simp [Value.oneCell'])) (G1.out) (G2.out) (Nat.succ_le_of_lt (HS3.out.alloc _).lt) ?_; intro v1 w1 hown1 hg1 _ hat1); have HS4 := Lib.hid ((HS3.out.alloc _).app (x := ⟨1, 0, ⟨#[]⟩⟩) hown1 hg1); clear hown1 hg1 hat1))
                  go_roundw
                  case rel => exact ⟨i + 1, _, _, _, by omega, by congr 1; omega, HG.out.bad HIN.out (by simp only [oneP]; rw [if_neg (by rw [K1.out]; decide), if_pos K1.out]), by first | (simp; done) | (simp at hrl ⊢; omega) | skip, by first | omega | (simp; omega) | skip, HS4.out⟩
                  case measure => simp [intOf]; omega
                | cons b r =>
                  have hbb := byte_lt b
                  have hrl4 : r.length ≤ l.length := by simp at hrl3; omega
                  by_cases b0 : b.toNat = 0
                  ·
                    have TC : Hid (∀ w1, Sc w1 w.heap.size (b :: r) false → Calls Tryd.prog 46 #[.pointer (some ⟨w.heap.size, 0, none⟩)] w1 (ScPost w1 w.heap.size (.int .i64 0) (r) false)) := fun w1 h1 => by
                      have := scan_byte w.heap.size (b :: r) false w1 h1 (by first | (simp; done) | (simp; omega) | (simp at hrl ⊢; omega))
                      rw [show hdB (b :: r) = 0 from b0] at this; exact this
                    have HN1 := Lib.hid (show oneP (k :: b :: r) = some (⟨1, 0, ⟨#[]⟩⟩, r) by simp only [oneP]; rw [if_neg (by rw [K1.out]; decide), if_pos K1.out, if_pos (by omega), b0]; rfl)
                    clear b0
                    go_wp2_with (first | (go_at_call 46; (with_reducible refine (TB.out _ HS.out.sc).mono ?_); rintro e waHS1 ⟨rfl, hsa, hga⟩; have HS1 := Lib.hid (HS.out.scan hsa hga); clear hsa hga; obtain ⟨c0, c1⟩ := HS1.out.sc.cells2; have cf := HS1.out.sc.frozen; have cz := HS1.out.lt) | (go_at_call 46; (with_reducible refine (TC.out _ HS1.out.sc).mono ?_); rintro e waHS2 ⟨rfl, hsa, hga⟩; have HS2 := Lib.hid (HS1.out.scan hsa hga); clear hsa hga; obtain ⟨c0, c1⟩ := HS2.out.sc.cells2; have cf := HS2.out.sc.frozen; have cz := HS2.out.lt; have HS2s := Lib.hid (HS2.out.store false)) | (go_at_call 48; (with_reducible refine (value_Flag false _).mono ?_); rintro e wmHS3 ⟨rfl, hbm⟩; have HS3 := Lib.hid (HS2s.out.step hbm); clear hbm) | ((at_builtin; refine wpList_append_src _ rfl (.tmp 64) (.tmp 68) 22 22 rfl ((w.heap.size + 1)) 38 i0 _ 3 32 Tryd.underlying22 hi hz0 hz1 hz2 zeroCellsValue (by decide) (_) (vs.length) (_) rfl ((HS3.out.alloc _).own) (.slice (some ⟨_, 0, none⟩) 1 1) (1) ([.int .i64 1, .int .i64 0, .string ⟨#[]⟩]) rfl (Src.ofSlice _ Tryd.underlying22 ⟨_, 0, none⟩ 1 1 ([.int .i64 1, .int .i64 0, .string ⟨#[]⟩]) rfl (World.news_of_block (heap_alloc_new _ _)) (by simp [Value.oneCell'])) (G1.out) (G2.out) (Nat.succ_le_of_lt (HS3.out.alloc _).lt) ?_; intro v1 w1 hown1 hg1 _ hat1); have HS4 := Lib.hid ((HS3.out.alloc _).app (x := ⟨1, 0, ⟨#[]⟩⟩) hown1 hg1); clear hown1 hg1 hat1))
                    go_roundw
                    case rel => exact ⟨i + 1, _, _, _, by omega, by congr 1; omega, HG.out.ok HN1.out, by first | (simp; done) | (simp at hrl ⊢; omega) | skip, by first | omega | (simp; omega) | skip, HS4.out⟩
                    case measure => simp [intOf]; omega
                  by_cases b1 : b.toNat = 1
                  ·
                    have TC : Hid (∀ w1, Sc w1 w.heap.size (b :: r) false → Calls Tryd.prog 46 #[.pointer (some ⟨w.heap.size, 0, none⟩)] w1 (ScPost w1 w.heap.size (.int .i64 1) (r) false)) := fun w1 h1 => by
                      have := scan_byte w.heap.size (b :: r) false w1 h1 (by first | (simp; done) | (simp; omega) | (simp at hrl ⊢; omega))
                      rw [show hdB (b :: r) = 1 from b1] at this; exact this
                    have HN1 := Lib.hid (show oneP (k :: b :: r) = some (⟨1, 1, ⟨#[]⟩⟩, r) by simp only [oneP]; rw [if_neg (by rw [K1.out]; decide), if_pos K1.out, if_pos (by omega), b1]; rfl)
                    clear b1
                    go_wp2_with (first | (go_at_call 46; (with_reducible refine (TB.out _ HS.out.sc).mono ?_); rintro e waHS1 ⟨rfl, hsa, hga⟩; have HS1 := Lib.hid (HS.out.scan hsa hga); clear hsa hga; obtain ⟨c0, c1⟩ := HS1.out.sc.cells2; have cf := HS1.out.sc.frozen; have cz := HS1.out.lt) | (go_at_call 46; (with_reducible refine (TC.out _ HS1.out.sc).mono ?_); rintro e waHS2 ⟨rfl, hsa, hga⟩; have HS2 := Lib.hid (HS1.out.scan hsa hga); clear hsa hga; obtain ⟨c0, c1⟩ := HS2.out.sc.cells2; have cf := HS2.out.sc.frozen; have cz := HS2.out.lt; have HS2s := Lib.hid (HS2.out.store false)) | (go_at_call 48; (with_reducible refine (value_Flag true _).mono ?_); rintro e wmHS3 ⟨rfl, hbm⟩; have HS3 := Lib.hid (HS2s.out.step hbm); clear hbm) | ((at_builtin; refine wpList_append_src _ rfl (.tmp 64) (.tmp 68) 22 22 rfl ((w.heap.size + 1)) 38 i0 _ 3 32 Tryd.underlying22 hi hz0 hz1 hz2 zeroCellsValue (by decide) (_) (vs.length) (_) rfl ((HS3.out.alloc _).own) (.slice (some ⟨_, 0, none⟩) 1 1) (1) ([.int .i64 1, .int .i64 1, .string ⟨#[]⟩]) rfl (Src.ofSlice _ Tryd.underlying22 ⟨_, 0, none⟩ 1 1 ([.int .i64 1, .int .i64 1, .string ⟨#[]⟩]) rfl (World.news_of_block (heap_alloc_new _ _)) (by simp [Value.oneCell'])) (G1.out) (G2.out) (Nat.succ_le_of_lt (HS3.out.alloc _).lt) ?_; intro v1 w1 hown1 hg1 _ hat1); have HS4 := Lib.hid ((HS3.out.alloc _).app (x := ⟨1, 1, ⟨#[]⟩⟩) hown1 hg1); clear hown1 hg1 hat1))
                    go_roundw
                    case rel => exact ⟨i + 1, _, _, _, by omega, by congr 1; omega, HG.out.ok HN1.out, by first | (simp; done) | (simp at hrl ⊢; omega) | skip, by first | omega | (simp; omega) | skip, HS4.out⟩
                    case measure => simp [intOf]; omega
                  have TC := Lib.hid (fun w1 h1 => scan_byte w.heap.size (b :: r) false w1 h1 (by simp at hrl3 ⊢; omega))
                  have HN1 := Lib.hid (show oneP (k :: b :: r) = none by simp only [oneP]; rw [if_neg (by rw [K1.out]; decide), if_pos K1.out, if_neg (by omega)])
                  obtain ⟨x, hx⟩ : ∃ x, hdB (b :: r) = x := ⟨_, rfl⟩
                  have hx1 : 1 < x := by rw [← hx]; simp only [hdB]; omega
                  have hx2 : (1 : Int) < (x : Int) := by omega
                  have hx3 : ((x : Int) == 1) = false := by rw [beq_eq_false_iff_ne]; omega
                  rw [hx] at TC
                  clear hx b0 b1 hx1
                  go_wp2_with (first | (go_at_call 46; (with_reducible refine (TB.out _ HS.out.sc).mono ?_); rintro e waHS1 ⟨rfl, hsa, hga⟩; have HS1 := Lib.hid (HS.out.scan hsa hga); clear hsa hga; obtain ⟨c0, c1⟩ := HS1.out.sc.cells2; have cf := HS1.out.sc.frozen; have cz := HS1.out.lt) | (go_at_call 46; (with_reducible refine (TC.out _ HS1.out.sc).mono ?_); rintro e waHS2 ⟨rfl, hsa, hga⟩; have HS2 := Lib.hid (HS1.out.scan hsa hga); clear hsa hga; obtain ⟨c0, c1⟩ := HS2.out.sc.cells2; have cf := HS2.out.sc.frozen; have cz := HS2.out.lt; have HS2s := Lib.hid (HS2.out.store true)) | (go_at_call 48; (with_reducible refine (value_Flag false _).mono ?_); rintro e wmHS3 ⟨rfl, hbm⟩; have HS3 := Lib.hid (HS2s.out.step hbm); clear hbm) | ((at_builtin; refine wpList_append_src _ rfl (.tmp 64) (.tmp 68) 22 22 rfl ((w.heap.size + 1)) 38 i0 _ 3 32 Tryd.underlying22 hi hz0 hz1 hz2 zeroCellsValue (by decide) (_) (vs.length) (_) rfl ((HS3.out.alloc _).own) (.slice (some ⟨_, 0, none⟩) 1 1) (1) ([.int .i64 1, .int .i64 0, .string ⟨#[]⟩]) rfl (Src.ofSlice _ Tryd.underlying22 ⟨_, 0, none⟩ 1 1 ([.int .i64 1, .int .i64 0, .string ⟨#[]⟩]) rfl (World.news_of_block (heap_alloc_new _ _)) (by simp [Value.oneCell'])) (G1.out) (G2.out) (Nat.succ_le_of_lt (HS3.out.alloc _).lt) ?_; intro v1 w1 hown1 hg1 _ hat1); have HS4 := Lib.hid ((HS3.out.alloc _).app (x := ⟨1, 0, ⟨#[]⟩⟩) hown1 hg1); clear hown1 hg1 hat1))
                  go_roundw
                  case rel => exact ⟨i + 1, _, _, _, by omega, by congr 1; omega, HG.out.bad HIN.out HN1.out, by first | (simp; done) | (simp at hrl ⊢; omega) | skip, by first | omega | (simp; omega) | skip, HS4.out⟩
                  case measure => simp [intOf]; omega
              · by_cases k2 : k.toNat = 2
                ·
                  have TB : Hid (∀ w1, Sc w1 w.heap.size (k :: r) false → Calls Tryd.prog 46 #[.pointer (some ⟨w.heap.size, 0, none⟩)] w1 (ScPost w1 w.heap.size (.int .i64 2) (r) false)) := fun w1 h1 => by
                    have := scan_byte w.heap.size (k :: r) false w1 h1 (by first | (simp; done) | (simp; omega) | (simp at hrl ⊢; omega))
                    rw [show hdB (k :: r) = 2 from k2] at this; exact this
                  have K2 := Lib.hid k2
                  clear k2 k1 k0
                  have TL := Lib.hid (fun w1 h1 => scan_long w.heap.size r false w1 h1 hrl2)
                  obtain ⟨X, hX⟩ : ∃ X, unK (takN 8 r) = X := ⟨_, rfl⟩
                  rw [hX] at TL
                  have lX : X < 18446744073709551616 := by
                    rw [← hX]
                    have h8 : unK (takN 8 r) < 256 ^ (takN 8 r).length := unK_lt _ _ rfl
                    have h9 : (takN 8 r).length ≤ 8 := by unfold takN; split <;> simp [List.length_take]; omega
                    have := Nat.pow_le_pow_right (show 0 < 256 by omega) h9
                    have e8 : (256 : Nat) ^ 8 = 18446744073709551616 := by decide
                    omega
                  have HX := Lib.hid hX
                  clear hX
                  by_cases h8 : 8 ≤ r.length
                  ·
                    rw [drN, badN, if_pos h8, if_pos h8] at TL
                    have HN1 := Lib.hid (show oneP (k :: r) = some (⟨2, wrap64 (X : Int), ⟨#[]⟩⟩, r.drop 8) by
                      simp only [oneP]
                      rw [if_neg (by rw [K2.out]; decide), if_neg (by rw [K2.out]; decide), if_pos K2.out, if_pos h8, ← s64_wrap lX, ← HX.out, takN, if_pos h8])
                    have hrl5 : (r.drop 8).length ≤ l.length := by rw [List.length_drop]; omega
                    clear h8 lX
                    go_wp2_with (first | (go_at_call 46; (with_reducible refine (TB.out _ HS.out.sc).mono ?_); rintro e waHS1 ⟨rfl, hsa, hga⟩; have HS1 := Lib.hid (HS.out.scan hsa hga); clear hsa hga; obtain ⟨c0, c1⟩ := HS1.out.sc.cells2; have cf := HS1.out.sc.frozen; have cz := HS1.out.lt) | (go_at_call 50; (with_reducible refine (TL.out _ HS1.out.sc).mono ?_); rintro e waHS2 ⟨rfl, hsa, hga⟩; have HS2 := Lib.hid (HS1.out.scan hsa hga); clear hsa hga; obtain ⟨c0, c1⟩ := HS2.out.sc.cells2; have cf := HS2.out.sc.frozen; have cz := HS2.out.lt) | (go_at_call 49; (with_reducible refine (value_Of (wrap64 (X : Int)) _).mono ?_); rintro e wmHS3 ⟨rfl, hbm⟩; have HS3 := Lib.hid (HS2.out.step hbm); clear hbm) | ((at_builtin; refine wpList_append_src _ rfl (.tmp 72) (.tmp 77) 22 22 rfl ((w.heap.size + 1)) 38 i0 _ 3 32 Tryd.underlying22 hi hz0 hz1 hz2 zeroCellsValue (by decide) (_) (vs.length) (_) rfl ((HS3.out.alloc _).own) (.slice (some ⟨_, 0, none⟩) 1 1) (1) ([.int .i64 2, .int .i64 (wrap64 (X : Int)), .string ⟨#[]⟩]) rfl (Src.ofSlice _ Tryd.underlying22 ⟨_, 0, none⟩ 1 1 ([.int .i64 2, .int .i64 (wrap64 (X : Int)), .string ⟨#[]⟩]) rfl (World.news_of_block (heap_alloc_new _ _)) (by simp [Value.oneCell'])) (G1.out) (G2.out) (Nat.succ_le_of_lt (HS3.out.alloc _).lt) ?_; intro v1 w1 hown1 hg1 _ hat1); have HS4 := Lib.hid ((HS3.out.alloc _).app (x := ⟨2, (wrap64 (X : Int)), ⟨#[]⟩⟩) hown1 hg1); clear hown1 hg1 hat1))
                    go_roundw
                    case rel => exact ⟨i + 1, _, _, _, by omega, by congr 1; omega, HG.out.ok HN1.out, by first | exact hrl5 | exact Nat.le_trans hR (by first | exact Nat.zero_le _ | exact hrl4) | (simp; done) | (simp at hrl ⊢; omega) | skip, by first | omega | (simp; omega) | skip, HS4.out⟩
                    case measure => simp [intOf]; omega
                  ·
                    rw [drN, badN, if_neg h8, if_neg h8] at TL
                    have HN1 := Lib.hid (show oneP (k :: r) = none by
                      simp only [oneP]
                      rw [if_neg (by rw [K2.out]; decide), if_neg (by rw [K2.out]; decide), if_pos K2.out, if_neg h8])
                    clear h8 lX
                    go_wp2_with (first | (go_at_call 46; (with_reducible refine (TB.out _ HS.out.sc).mono ?_); rintro e waHS1 ⟨rfl, hsa, hga⟩; have HS1 := Lib.hid (HS.out.scan hsa hga); clear hsa hga; obtain ⟨c0, c1⟩ := HS1.out.sc.cells2; have cf := HS1.out.sc.frozen; have cz := HS1.out.lt) | (go_at_call 50; (with_reducible refine (TL.out _ HS1.out.sc).mono ?_); rintro e waHS2 ⟨rfl, hsa, hga⟩; have HS2 := Lib.hid (HS1.out.scan hsa hga); clear hsa hga; obtain ⟨c0, c1⟩ := HS2.out.sc.cells2; have cf := HS2.out.sc.frozen; have cz := HS2.out.lt) | (go_at_call 49; (with_reducible refine (value_Of (wrap64 (X : Int)) _).mono ?_); rintro e wmHS3 ⟨rfl, hbm⟩; have HS3 := Lib.hid (HS2.out.step hbm); clear hbm) | ((at_builtin; refine wpList_append_src _ rfl (.tmp 72) (.tmp 77) 22 22 rfl ((w.heap.size + 1)) 38 i0 _ 3 32 Tryd.underlying22 hi hz0 hz1 hz2 zeroCellsValue (by decide) (_) (vs.length) (_) rfl ((HS3.out.alloc _).own) (.slice (some ⟨_, 0, none⟩) 1 1) (1) ([.int .i64 2, .int .i64 (wrap64 (X : Int)), .string ⟨#[]⟩]) rfl (Src.ofSlice _ Tryd.underlying22 ⟨_, 0, none⟩ 1 1 ([.int .i64 2, .int .i64 (wrap64 (X : Int)), .string ⟨#[]⟩]) rfl (World.news_of_block (heap_alloc_new _ _)) (by simp [Value.oneCell'])) (G1.out) (G2.out) (Nat.succ_le_of_lt (HS3.out.alloc _).lt) ?_; intro v1 w1 hown1 hg1 _ hat1); have HS4 := Lib.hid ((HS3.out.alloc _).app (x := ⟨2, (wrap64 (X : Int)), ⟨#[]⟩⟩) hown1 hg1); clear hown1 hg1 hat1))
                    go_roundw
                    case rel => exact ⟨i + 1, _, _, _, by omega, by congr 1; omega, HG.out.bad HIN.out HN1.out, by first | (simp; done) | (simp at hrl ⊢; omega) | skip, by first | omega | (simp; omega) | skip, HS4.out⟩
                    case measure => simp [intOf]; omega
                · by_cases k3 : k.toNat = 3
                  ·
                    have TB : Hid (∀ w1, Sc w1 w.heap.size (k :: r) false → Calls Tryd.prog 46 #[.pointer (some ⟨w.heap.size, 0, none⟩)] w1 (ScPost w1 w.heap.size (.int .i64 3) (r) false)) := fun w1 h1 => by
                      have := scan_byte w.heap.size (k :: r) false w1 h1 (by first | (simp; done) | (simp; omega) | (simp at hrl ⊢; omega))
                      rw [show hdB (k :: r) = 3 from k3] at this; exact this
                    have K3 := Lib.hid k3
                    clear k3 k2 k1 k0
                    have ONE := Lib.hid (show ∀ x, oneP (k :: x) = (match x with | h :: l :: r' => if 256 * h.toNat + l.toNat ≤ 1000 ∧ 256 * h.toNat + l.toNat ≤ r'.length then some (⟨3, 0, bsOf (r'.take (256 * h.toNat + l.toNat))⟩, r'.drop (256 * h.toNat + l.toNat)) else none | _ => none) from fun x => by
                      simp only [oneP]
                      rw [if_neg (by rw [K3.out]; decide), if_neg (by rw [K3.out]; decide), if_neg (by rw [K3.out]; decide), if_pos K3.out]
                      rfl)
                    clear K3
                    match r, hrl, hrl2, hrl3, TB with
                    | [], hrl, hrl2, hrl3, TB =>
                      have TC : Hid (∀ w1, Sc w1 w.heap.size ([]) false → Calls Tryd.prog 46 #[.pointer (some ⟨w.heap.size, 0, none⟩)] w1 (ScPost w1 w.heap.size (.int .i64 0) ([]) true)) := fun w1 h1 => by
                        have := scan_byte w.heap.size ([]) false w1 h1 (by first | (simp; done) | (simp; omega) | (simp at hrl ⊢; omega))
                        exact this
                      have TD : Hid (∀ w1, Sc w1 w.heap.size ([]) true → Calls Tryd.prog 46 #[.pointer (some ⟨w.heap.size, 0, none⟩)] w1 (ScPost w1 w.heap.size (.int .i64 0) ([]) true)) := fun w1 h1 => by
                        have := scan_byte w.heap.size ([]) true w1 h1 (by first | (simp; done) | (simp; omega) | (simp at hrl ⊢; omega))
                        exact this
                      have TT := Lib.hid (fun w1 h1 => scan_any w.heap.size ([]) true (0) w1 h1 (by first | (simp; done) | (simp at hrl ⊢; omega)) (by omega))
                      have hR := drN_len (0) ([])
                      obtain ⟨t, ht⟩ : ∃ t, bsOf (takN (0) ([])) = t := ⟨_, rfl⟩
                      obtain ⟨R, hRR⟩ : ∃ R, drN (0) ([]) = R := ⟨_, rfl⟩
                      rw [badN_true, ht, hRR] at TT
                      rw [hRR] at hR
                      clear ht hRR
                      rw [show ((0 : Nat) : Int) = 0 from rfl] at TT
                      have e0 : bits .or .i64 0 0 = 0 := by decide
                      go_wp2_with (first | (go_at_call 46; (with_reducible refine (TB.out _ HS.out.sc).mono ?_); rintro e waHS1 ⟨rfl, hsa, hga⟩; have HS1 := Lib.hid (HS.out.scan hsa hga); clear hsa hga; obtain ⟨c0, c1⟩ := HS1.out.sc.cells2; have cf := HS1.out.sc.frozen; have cz := HS1.out.lt) | (go_at_call 46; (with_reducible refine (TC.out _ HS1.out.sc).mono ?_); rintro e waHS2 ⟨rfl, hsa, hga⟩; have HS2 := Lib.hid (HS1.out.scan hsa hga); clear hsa hga; obtain ⟨c0, c1⟩ := HS2.out.sc.cells2; have cf := HS2.out.sc.frozen; have cz := HS2.out.lt) | (go_at_call 46; (with_reducible refine (TD.out _ HS2.out.sc).mono ?_); rintro e waHS3 ⟨rfl, hsa, hga⟩; have HS3 := Lib.hid (HS2.out.scan hsa hga); clear hsa hga; obtain ⟨c0, c1⟩ := HS3.out.sc.cells2; have cf := HS3.out.sc.frozen; have cz := HS3.out.lt; have HS3s := Lib.hid (HS3.out.store true)) | (go_at_call 52; (with_reducible refine (TT.out _ HS3s.out.sc).mono ?_); rintro e waHS4 ⟨rfl, hsa, hga⟩; have HS4 := Lib.hid (HS3s.out.scan hsa hga); clear hsa hga) | (go_at_call 51; (with_reducible refine (value_Str t _).mono ?_); rintro e wmHS5 ⟨rfl, hbm⟩; have HS5 := Lib.hid (HS4.out.step hbm); clear hbm) | ((at_builtin; refine wpList_append_src _ rfl (.tmp 98) (.tmp 103) 22 22 rfl ((w.heap.size + 1)) 38 i0 _ 3 32 Tryd.underlying22 hi hz0 hz1 hz2 zeroCellsValue (by decide) (_) (vs.length) (_) rfl ((HS5.out.alloc _).own) (.slice (some ⟨_, 0, none⟩) 1 1) (1) ([.int .i64 3, .int .i64 0, .string t]) rfl (Src.ofSlice _ Tryd.underlying22 ⟨_, 0, none⟩ 1 1 ([.int .i64 3, .int .i64 0, .string t]) rfl (World.news_of_block (heap_alloc_new _ _)) (by simp [Value.oneCell'])) (G1.out) (G2.out) (Nat.succ_le_of_lt (HS5.out.alloc _).lt) ?_; intro v1 w1 hown1 hg1 _ hat1); have HS6 := Lib.hid ((HS5.out.alloc _).app (x := ⟨3, 0, t⟩) hown1 hg1); clear hown1 hg1 hat1))
                      go_roundw
                      case rel => exact ⟨i + 1, _, _, _, by omega, by congr 1; omega, HG.out.bad HIN.out (ONE.out _), by first | exact hrl5 | exact Nat.le_trans hR (by first | exact Nat.zero_le _ | exact hrl4) | (simp; done) | (simp at hrl ⊢; omega) | skip, by first | omega | (simp; omega) | skip, HS6.out⟩
                      case measure => simp [intOf]; omega
                    | [a], hrl, hrl2, hrl3, TB =>
                      have hab := byte_lt a
                      have TC : Hid (∀ w1, Sc w1 w.heap.size ([a]) false → Calls Tryd.prog 46 #[.pointer (some ⟨w.heap.size, 0, none⟩)] w1 (ScPost w1 w.heap.size (.int .i64 (a.toNat : Nat)) ([]) false)) := fun w1 h1 => by
                        have := scan_byte w.heap.size ([a]) false w1 h1 (by first | (simp; done) | (simp; omega) | (simp at hrl ⊢; omega))
                        exact this
                      have TD : Hid (∀ w1, Sc w1 w.heap.size ([]) false → Calls Tryd.prog 46 #[.pointer (some ⟨w.heap.size, 0, none⟩)] w1 (ScPost w1 w.heap.size (.int .i64 0) ([]) true)) := fun w1 h1 => by
                        have := scan_byte w.heap.size ([]) false w1 h1 (by first | (simp; done) | (simp; omega) | (simp at hrl ⊢; omega))
                        exact this
                      obtain ⟨x, hx⟩ : ∃ x, a.toNat = x := ⟨_, rfl⟩
                      rw [hx] at TC hab
                      clear hx
                      have TT := Lib.hid (fun w1 h1 => scan_any w.heap.size ([]) true (256 * x) w1 h1 (by first | (simp; done) | (simp at hrl ⊢; omega)) (by omega))
                      have hR := drN_len (256 * x) ([])
                      obtain ⟨t, ht⟩ : ∃ t, bsOf (takN (256 * x) ([])) = t := ⟨_, rfl⟩
                      obtain ⟨R, hRR⟩ : ∃ R, drN (256 * x) ([]) = R := ⟨_, rfl⟩
                      rw [badN_true, ht, hRR] at TT
                      rw [hRR] at hR
                      clear ht hRR
                      have e0 : bits .or .i64 ((x : Int) * 256) 0 = ((256 * x : Nat) : Int) := or_two x 0 hab (by omega)
                      obtain ⟨z, hz⟩ : ∃ z, 256 * x = z := ⟨_, rfl⟩
                      rw [hz] at e0 TT
                      have zle : z ≤ 65535 := by omega
                      clear hz
                      by_cases zbig : 1000 < z
                      all_goals
                        go_wp2_with (first | (go_at_call 46; (with_reducible refine (TB.out _ HS.out.sc).mono ?_); rintro e waHS1 ⟨rfl, hsa, hga⟩; have HS1 := Lib.hid (HS.out.scan hsa hga); clear hsa hga; obtain ⟨c0, c1⟩ := HS1.out.sc.cells2; have cf := HS1.out.sc.frozen; have cz := HS1.out.lt) | (go_at_call 46; (with_reducible refine (TC.out _ HS1.out.sc).mono ?_); rintro e waHS2 ⟨rfl, hsa, hga⟩; have HS2 := Lib.hid (HS1.out.scan hsa hga); clear hsa hga; obtain ⟨c0, c1⟩ := HS2.out.sc.cells2; have cf := HS2.out.sc.frozen; have cz := HS2.out.lt) | (go_at_call 46; (with_reducible refine (TD.out _ HS2.out.sc).mono ?_); rintro e waHS3 ⟨rfl, hsa, hga⟩; have HS3 := Lib.hid (HS2.out.scan hsa hga); clear hsa hga; obtain ⟨c0, c1⟩ := HS3.out.sc.cells2; have cf := HS3.out.sc.frozen; have cz := HS3.out.lt; have HS3s := Lib.hid (HS3.out.store true)) | (go_at_call 52; (with_reducible refine (TT.out _ HS3s.out.sc).mono ?_); rintro e waHS4 ⟨rfl, hsa, hga⟩; have HS4 := Lib.hid (HS3s.out.scan hsa hga); clear hsa hga) | (go_at_call 51; (with_reducible refine (value_Str t _).mono ?_); rintro e wmHS5 ⟨rfl, hbm⟩; have HS5 := Lib.hid (HS4.out.step hbm); clear hbm) | ((at_builtin; refine wpList_append_src _ rfl (.tmp 98) (.tmp 103) 22 22 rfl ((w.heap.size + 1)) 38 i0 _ 3 32 Tryd.underlying22 hi hz0 hz1 hz2 zeroCellsValue (by decide) (_) (vs.length) (_) rfl ((HS5.out.alloc _).own) (.slice (some ⟨_, 0, none⟩) 1 1) (1) ([.int .i64 3, .int .i64 0, .string t]) rfl (Src.ofSlice _ Tryd.underlying22 ⟨_, 0, none⟩ 1 1 ([.int .i64 3, .int .i64 0, .string t]) rfl (World.news_of_block (heap_alloc_new _ _)) (by simp [Value.oneCell'])) (G1.out) (G2.out) (Nat.succ_le_of_lt (HS5.out.alloc _).lt) ?_; intro v1 w1 hown1 hg1 _ hat1); have HS6 := Lib.hid ((HS5.out.alloc _).app (x := ⟨3, 0, t⟩) hown1 hg1); clear hown1 hg1 hat1))
                        go_roundw
                        case rel => exact ⟨i + 1, _, _, _, by omega, by congr 1; omega, HG.out.bad HIN.out (ONE.out _), by first | exact hrl5 | exact Nat.le_trans hR (by first | exact Nat.zero_le _ | exact hrl4) | (simp; done) | (simp at hrl ⊢; omega) | skip, by first | omega | (simp; omega) | skip, HS6.out⟩
                        case measure => simp [intOf]; omega
                    | a :: b :: r, hrl, hrl2, hrl3, TB =>
                      have hab := byte_lt a
                      have hbb := byte_lt b
                      have hrl4 : r.length ≤ l.length := by simp at hrl3; omega
                      have TC : Hid (∀ w1, Sc w1 w.heap.size (a :: b :: r) false → Calls Tryd.prog 46 #[.pointer (some ⟨w.heap.size, 0, none⟩)] w1 (ScPost w1 w.heap.size (.int .i64 (a.toNat : Nat)) (b :: r) false)) := fun w1 h1 => by
                        have := scan_byte w.heap.size (a :: b :: r) false w1 h1 (by first | (simp; done) | (simp; omega) | (simp at hrl ⊢; omega))
                        exact this
                      have TD : Hid (∀ w1, Sc w1 w.heap.size (b :: r) false → Calls Tryd.prog 46 #[.pointer (some ⟨w.heap.size, 0, none⟩)] w1 (ScPost w1 w.heap.size (.int .i64 (b.toNat : Nat)) (r) false)) := fun w1 h1 => by
                        have := scan_byte w.heap.size (b :: r) false w1 h1 (by first | (simp; done) | (simp; omega) | (simp at hrl ⊢; omega))
                        exact this
                      have ONE2 := Lib.hid (ONE.out (a :: b :: r))
                      obtain ⟨x, hx⟩ : ∃ x, a.toNat = x := ⟨_, rfl⟩
                      obtain ⟨y, hy⟩ : ∃ y, b.toNat = y := ⟨_, rfl⟩
                      simp only [hx, hy] at ONE2 TC TD hab hbb
                      have e0 : bits .or .i64 ((x : Int) * 256) (y : Int) = ((256 * x + y : Nat) : Int) := or_two x y hab hbb
                      obtain ⟨z, hz⟩ : ∃ z, 256 * x + y = z := ⟨_, rfl⟩
                      simp only [hz] at e0 ONE2
                      have zle : z ≤ 65535 := by omega
                      clear hz hx hy ONE
                      by_cases zbig : 1000 < z
                      ·
                        have HN1 := Lib.hid (show oneP (k :: a :: b :: r) = none by rw [ONE2.out]; exact if_neg (by omega))
                        have hd : decide ((1000 : Int) < (z : Int)) = true := by rw [decide_eq_true_eq]; omega
                        have TT := Lib.hid (fun w1 h1 => scan_any w.heap.size (r) true (z) w1 h1 (by first | (simp; done) | (simp at hrl ⊢; omega)) (by omega))
                        have hR := drN_len (z) (r)
                        obtain ⟨t, ht⟩ : ∃ t, bsOf (takN (z) (r)) = t := ⟨_, rfl⟩
                        obtain ⟨R, hRR⟩ : ∃ R, drN (z) (r) = R := ⟨_, rfl⟩
                        rw [badN_true, ht, hRR] at TT
                        rw [hRR] at hR
                        clear ht hRR
                        go_wp2_with (first | (go_at_call 46; (with_reducible refine (TB.out _ HS.out.sc).mono ?_); rintro e waHS1 ⟨rfl, hsa, hga⟩; have HS1 := Lib.hid (HS.out.scan hsa hga); clear hsa hga; obtain ⟨c0, c1⟩ := HS1.out.sc.cells2; have cf := HS1.out.sc.frozen; have cz := HS1.out.lt) | (go_at_call 46; (with_reducible refine (TC.out _ HS1.out.sc).mono ?_); rintro e waHS2 ⟨rfl, hsa, hga⟩; have HS2 := Lib.hid (HS1.out.scan hsa hga); clear hsa hga; obtain ⟨c0, c1⟩ := HS2.out.sc.cells2; have cf := HS2.out.sc.frozen; have cz := HS2.out.lt) | (go_at_call 46; (with_reducible refine (TD.out _ HS2.out.sc).mono ?_); rintro e waHS3 ⟨rfl, hsa, hga⟩; have HS3 := Lib.hid (HS2.out.scan hsa hga); clear hsa hga; obtain ⟨c0, c1⟩ := HS3.out.sc.cells2; have cf := HS3.out.sc.frozen; have cz := HS3.out.lt; have HS3s := Lib.hid (HS3.out.store true)) | (go_at_call 52; (with_reducible refine (TT.out _ HS3s.out.sc).mono ?_); rintro e waHS4 ⟨rfl, hsa, hga⟩; have HS4 := Lib.hid (HS3s.out.scan hsa hga); clear hsa hga) | (go_at_call 51; (with_reducible refine (value_Str t _).mono ?_); rintro e wmHS5 ⟨rfl, hbm⟩; have HS5 := Lib.hid (HS4.out.step hbm); clear hbm) | ((at_builtin; refine wpList_append_src _ rfl (.tmp 98) (.tmp 103) 22 22 rfl ((w.heap.size + 1)) 38 i0 _ 3 32 Tryd.underlying22 hi hz0 hz1 hz2 zeroCellsValue (by decide) (_) (vs.length) (_) rfl ((HS5.out.alloc _).own) (.slice (some ⟨_, 0, none⟩) 1 1) (1) ([.int .i64 3, .int .i64 0, .string t]) rfl (Src.ofSlice _ Tryd.underlying22 ⟨_, 0, none⟩ 1 1 ([.int .i64 3, .int .i64 0, .string t]) rfl (World.news_of_block (heap_alloc_new _ _)) (by simp [Value.oneCell'])) (G1.out) (G2.out) (Nat.succ_le_of_lt (HS5.out.alloc _).lt) ?_; intro v1 w1 hown1 hg1 _ hat1); have HS6 := Lib.hid ((HS5.out.alloc _).app (x := ⟨3, 0, t⟩) hown1 hg1); clear hown1 hg1 hat1))
                        go_roundw
                        case rel => exact ⟨i + 1, _, _, _, by omega, by congr 1; omega, HG.out.bad HIN.out HN1.out, by first | exact hrl5 | exact Nat.le_trans hR (by first | exact Nat.zero_le _ | exact hrl4) | (simp; done) | (simp at hrl ⊢; omega) | skip, by first | omega | (simp; omega) | skip, HS6.out⟩
                        case measure => simp [intOf]; omega
                      · have hd : decide ((1000 : Int) < (z : Int)) = false := by rw [decide_eq_false_iff_not]; omega
                        by_cases hfit : z ≤ r.length
                        ·
                          have HN1 := Lib.hid (show oneP (k :: a :: b :: r) = some (⟨3, 0, bsOf (r.take z)⟩, r.drop z) by rw [ONE2.out]; exact if_pos ⟨by omega, hfit⟩)
                          have TT := Lib.hid (fun w1 h1 => scan_any w.heap.size (r) false (z) w1 h1 (by first | (simp; done) | (simp at hrl ⊢; omega)) (by omega))
                          have hR := drN_len (z) (r)
                          have hrl5 : (r.drop z).length ≤ l.length := by rw [List.length_drop]; omega
                          rw [takN, drN, badN, if_pos hfit, if_pos hfit, if_pos hfit] at TT
                          clear hfit
                          go_wp2_with (first | (go_at_call 46; (with_reducible refine (TB.out _ HS.out.sc).mono ?_); rintro e waHS1 ⟨rfl, hsa, hga⟩; have HS1 := Lib.hid (HS.out.scan hsa hga); clear hsa hga; obtain ⟨c0, c1⟩ := HS1.out.sc.cells2; have cf := HS1.out.sc.frozen; have cz := HS1.out.lt) | (go_at_call 46; (with_reducible refine (TC.out _ HS1.out.sc).mono ?_); rintro e waHS2 ⟨rfl, hsa, hga⟩; have HS2 := Lib.hid (HS1.out.scan hsa hga); clear hsa hga; obtain ⟨c0, c1⟩ := HS2.out.sc.cells2; have cf := HS2.out.sc.frozen; have cz := HS2.out.lt) | (go_at_call 46; (with_reducible refine (TD.out _ HS2.out.sc).mono ?_); rintro e waHS3 ⟨rfl, hsa, hga⟩; have HS3 := Lib.hid (HS2.out.scan hsa hga); clear hsa hga; obtain ⟨c0, c1⟩ := HS3.out.sc.cells2; have cf := HS3.out.sc.frozen; have cz := HS3.out.lt; have HS3s := Lib.hid (HS3.out.store false)) | (go_at_call 52; (with_reducible refine (TT.out _ HS3s.out.sc).mono ?_); rintro e waHS4 ⟨rfl, hsa, hga⟩; have HS4 := Lib.hid (HS3s.out.scan hsa hga); clear hsa hga) | (go_at_call 51; (with_reducible refine (value_Str (bsOf (r.take z)) _).mono ?_); rintro e wmHS5 ⟨rfl, hbm⟩; have HS5 := Lib.hid (HS4.out.step hbm); clear hbm) | ((at_builtin; refine wpList_append_src _ rfl (.tmp 98) (.tmp 103) 22 22 rfl ((w.heap.size + 1)) 38 i0 _ 3 32 Tryd.underlying22 hi hz0 hz1 hz2 zeroCellsValue (by decide) (_) (vs.length) (_) rfl ((HS5.out.alloc _).own) (.slice (some ⟨_, 0, none⟩) 1 1) (1) ([.int .i64 3, .int .i64 0, .string (bsOf (r.take z))]) rfl (Src.ofSlice _ Tryd.underlying22 ⟨_, 0, none⟩ 1 1 ([.int .i64 3, .int .i64 0, .string (bsOf (r.take z))]) rfl (World.news_of_block (heap_alloc_new _ _)) (by simp [Value.oneCell'])) (G1.out) (G2.out) (Nat.succ_le_of_lt (HS5.out.alloc _).lt) ?_; intro v1 w1 hown1 hg1 _ hat1); have HS6 := Lib.hid ((HS5.out.alloc _).app (x := ⟨3, 0, (bsOf (r.take z))⟩) hown1 hg1); clear hown1 hg1 hat1))
                          go_roundw
                          case rel => exact ⟨i + 1, _, _, _, by omega, by congr 1; omega, HG.out.ok HN1.out, by first | exact hrl5 | exact Nat.le_trans hR (by first | exact Nat.zero_le _ | exact hrl4) | (simp; done) | (simp at hrl ⊢; omega) | skip, by first | omega | (simp; omega) | skip, HS6.out⟩
                          case measure => simp [intOf]; omega
                        ·
                          have HN1 := Lib.hid (show oneP (k :: a :: b :: r) = none by rw [ONE2.out]; exact if_neg (fun h => hfit h.2))
                          have TT := Lib.hid (fun w1 h1 => scan_any w.heap.size (r) false (z) w1 h1 (by first | (simp; done) | (simp at hrl ⊢; omega)) (by omega))
                          have hR := drN_len (z) (r)
                          rw [takN, drN, badN, if_neg hfit, if_neg hfit, if_neg hfit] at TT
                          clear hfit
                          go_wp2_with (first | (go_at_call 46; (with_reducible refine (TB.out _ HS.out.sc).mono ?_); rintro e waHS1 ⟨rfl, hsa, hga⟩; have HS1 := Lib.hid (HS.out.scan hsa hga); clear hsa hga; obtain ⟨c0, c1⟩ := HS1.out.sc.cells2; have cf := HS1.out.sc.frozen; have cz := HS1.out.lt) | (go_at_call 46; (with_reducible refine (TC.out _ HS1.out.sc).mono ?_); rintro e waHS2 ⟨rfl, hsa, hga⟩; have HS2 := Lib.hid (HS1.out.scan hsa hga); clear hsa hga; obtain ⟨c0, c1⟩ := HS2.out.sc.cells2; have cf := HS2.out.sc.frozen; have cz := HS2.out.lt) | (go_at_call 46; (with_reducible refine (TD.out _ HS2.out.sc).mono ?_); rintro e waHS3 ⟨rfl, hsa, hga⟩; have HS3 := Lib.hid (HS2.out.scan hsa hga); clear hsa hga; obtain ⟨c0, c1⟩ := HS3.out.sc.cells2; have cf := HS3.out.sc.frozen; have cz := HS3.out.lt; have HS3s := Lib.hid (HS3.out.store false)) | (go_at_call 52; (with_reducible refine (TT.out _ HS3s.out.sc).mono ?_); rintro e waHS4 ⟨rfl, hsa, hga⟩; have HS4 := Lib.hid (HS3s.out.scan hsa hga); clear hsa hga) | (go_at_call 51; (with_reducible refine (value_Str (bsOf []) _).mono ?_); rintro e wmHS5 ⟨rfl, hbm⟩; have HS5 := Lib.hid (HS4.out.step hbm); clear hbm) | ((at_builtin; refine wpList_append_src _ rfl (.tmp 98) (.tmp 103) 22 22 rfl ((w.heap.size + 1)) 38 i0 _ 3 32 Tryd.underlying22 hi hz0 hz1 hz2 zeroCellsValue (by decide) (_) (vs.length) (_) rfl ((HS5.out.alloc _).own) (.slice (some ⟨_, 0, none⟩) 1 1) (1) ([.int .i64 3, .int .i64 0, .string (bsOf [])]) rfl (Src.ofSlice _ Tryd.underlying22 ⟨_, 0, none⟩ 1 1 ([.int .i64 3, .int .i64 0, .string (bsOf [])]) rfl (World.news_of_block (heap_alloc_new _ _)) (by simp [Value.oneCell'])) (G1.out) (G2.out) (Nat.succ_le_of_lt (HS5.out.alloc _).lt) ?_; intro v1 w1 hown1 hg1 _ hat1); have HS6 := Lib.hid ((HS5.out.alloc _).app (x := ⟨3, 0, (bsOf [])⟩) hown1 hg1); clear hown1 hg1 hat1))
                          go_roundw
                          case rel => exact ⟨i + 1, _, _, _, by omega, by congr 1; omega, HG.out.bad HIN.out HN1.out, by first | exact hrl5 | exact Nat.le_trans hR (by first | exact Nat.zero_le _ | exact hrl4) | (simp; done) | (simp at hrl ⊢; omega) | skip, by first | omega | (simp; omega) | skip, HS6.out⟩
                          case measure => simp [intOf]; omega
                  ·
                    have HN1 := Lib.hid (show oneP (k :: r) = none by simp only [oneP]; rw [if_neg k0, if_neg k1, if_neg k2, if_neg k3])
                    have k4 : 3 < k.toNat := by omega
                    have TB : Hid (∀ w1, Sc w1 w.heap.size (k :: r) false → Calls Tryd.prog 46 #[.pointer (some ⟨w.heap.size, 0, none⟩)] w1 (ScPost w1 w.heap.size (.int .i64 (k.toNat : Nat)) (r) false)) := fun w1 h1 => by
                      have := scan_byte w.heap.size (k :: r) false w1 h1 (by first | (simp; done) | (simp; omega) | (simp at hrl ⊢; omega))
                      exact this
                    obtain ⟨x, hx⟩ : ∃ x, k.toNat = x := ⟨_, rfl⟩
                    rw [hx] at TB hkb k4
                    have e0 : ((x : Int) == 0) = false := by rw [beq_eq_false_iff_ne]; omega
                    have e1 : ((x : Int) == 1) = false := by rw [beq_eq_false_iff_ne]; omega
                    have e2 : ((x : Int) == 2) = false := by rw [beq_eq_false_iff_ne]; omega
                    have e3 : ((x : Int) == 3) = false := by rw [beq_eq_false_iff_ne]; omega
                    clear hx k0 k1 k2 k3 k4
                    go_wp2_with (first | (go_at_call 46; (with_reducible refine (TB.out _ HS.out.sc).mono ?_); rintro e waHS1 ⟨rfl, hsa, hga⟩; have HS1 := Lib.hid (HS.out.scan hsa hga); clear hsa hga; obtain ⟨c0, c1⟩ := HS1.out.sc.cells2; have cf := HS1.out.sc.frozen; have cz := HS1.out.lt; have HS1s := Lib.hid (HS1.out.store true)))
                    go_roundw
                    case rel => exact ⟨i + 1, _, _, _, by omega, by congr 1; omega, HG.out.bad (vs' := vs) HIN.out HN1.out, by first | (simp; done) | (simp at hrl ⊢; omega) | skip, by first | omega | (simp; omega) | skip, HS1s.out⟩
                    case measure => simp [intOf]; omega
        · obtain rfl : i = N := by omega
          have h0 : ¬ (0 : Int) < ((i - i : Nat) : Int) := by omega
          by_cases hr : rest = []
          · have ANS := Lib.hid (show unpackP l = some vs by
              have := HG.out
              rw [hr, ← HN.out] at this; exact this.done)
            have HO := Lib.hid (own_mono HS.out.own (Nat.le_succ _))
            have HB := Lib.hid HS.out.bel
            have z : ¬ 0 < (bsOf rest).size := by rw [hr]; decide
            go_wp2_with fail
            go_ret2
            exact UnpackPost.good ANS.out HO.out HB.out
          · have ANS := Lib.hid (show unpackP l = none by
              have := HG.out
              rw [← HN.out] at this; exact this.left hr)
            have HB := Lib.hid HS.out.bel
            have z : 0 < (bsOf rest).size := by rw [bsOf_size]; exact List.length_pos_iff.2 hr
            clear hr
            go_wp2_with fail
            go_ret2
            exact UnpackPost.bad ANS.out HB.out

end Go.Proofs.YtlkkpgdgnnknpaaDoor
