/-
  relstoreref.Unpack.
-/
import Derived.Test.YtlkkpgdgnnknpaaCode5
namespace Go.Proofs.Ytlkkpgdgnnknpaa
open Go.RowKit
open Go.BigFrame
set_option linter.unusedVariables false

/-- what reading a row's bytes has come to, in the reference -/
def GoodR (s : List UInt8) (i : Nat) (rest : List UInt8) (vs : List Val) : Prop := ∃ b r, s = b :: r ∧ many oneR i r = some (vs, rest)
theorem GoodR.bad {s rest : List UInt8} {i : Nat} {vs : List Val} (h : GoodR s i rest vs) (hi : i < hdB s) (ho : oneR rest = none) : unpackR s = none := by
  obtain ⟨b, r, rfl, hm⟩ := h
  have h1 : many oneR (i + 1) r = none := by rw [many, hm]; simp [ho]
  have h2 := many_none (show i + 1 ≤ b.toNat from hi) h1
  simp only [unpackR, h2]; simp
theorem GoodR.ok {s rest rest' : List UInt8} {i : Nat} {vs : List Val} {v : Val} (h : GoodR s i rest vs) (ho : oneR rest = some (v, rest')) : GoodR s (i + 1) rest' (vs ++ [v]) := by
  obtain ⟨b, r, rfl, hm⟩ := h
  refine ⟨b, r, rfl, ?_⟩
  rw [many, hm]; simp [ho]
theorem GoodR.done {s rest : List UInt8} {vs : List Val} (h : GoodR s (hdB s) rest vs) (h1 : packE vs = 0) (h2 : packS vs = bsOf s) : unpackR s = some vs := by
  obtain ⟨b, r, rfl, hm⟩ := h
  simp only [unpackR]
  rw [show b.toNat = hdB (b :: r) from rfl, hm]
  simp only [Option.bind_some]
  rw [if_pos ⟨h1, h2⟩]
theorem GoodR.left {s rest : List UInt8} {vs : List Val} (h : GoodR s (hdB s) rest vs) (hr : ¬ (packE vs = 0 ∧ packS vs = bsOf s)) : unpackR s = none := by
  obtain ⟨b, r, rfl, hm⟩ := h
  simp only [unpackR]
  rw [show b.toNat = hdB (b :: r) from rfl, hm]
  simp only [Option.bind_some]
  rw [if_neg hr]
theorem many_sizes {one : List UInt8 → Option (Val × List UInt8)} (h1 : ∀ r v r', one r = some (v, r') → r'.length ≤ r.length ∧ v.s.size ≤ r.length) : ∀ (n : Nat) (r r' : List UInt8) (vs : List Val), many one n r = some (vs, r') → r'.length ≤ r.length ∧ ∀ v ∈ vs, v.s.size ≤ r.length
  | 0, r, r', vs, h => by cases h; exact ⟨Nat.le_refl _, by simp⟩
  | n + 1, r, r', vs, h => by
    simp only [many] at h
    obtain ⟨⟨us, r1⟩, a1, h2⟩ := Option.bind_eq_some_iff.1 h
    obtain ⟨⟨v, r2⟩, h3, h4⟩ := Option.map_eq_some_iff.1 h2
    cases h4
    obtain ⟨b1, b2⟩ := many_sizes h1 n r r1 us a1
    obtain ⟨c1, c2⟩ := h1 _ _ _ h3
    refine ⟨Nat.le_trans c1 b1, fun u hu => ?_⟩
    rcases List.mem_append.1 hu with hu | hu
    · exact b2 u hu
    · rw [List.mem_singleton.1 hu]; exact Nat.le_trans c2 b1
theorem oneR_sizes (r : List UInt8) (v : Val) (r' : List UInt8) (h : oneR r = some (v, r')) : r'.length ≤ r.length ∧ v.s.size ≤ r.length := by
  cases r with
  | nil => simp [oneR] at h
  | cons k r =>
    simp only [oneR] at h
    split at h
    · cases h; exact ⟨by simp, Nat.zero_le _⟩
    · split at h
      · cases r with
        | nil => cases h
        | cons b r => cases h; exact ⟨by simp; omega, Nat.zero_le _⟩
      · split at h
        · split at h
          · cases h; exact ⟨by simp; omega, Nat.zero_le _⟩
          · cases h
        · split at h
          · match r with
            | [] => cases h
            | [_] => cases h
            | a :: b :: r =>
              simp only at h
              split at h
              · cases h; exact ⟨by simp; omega, by rw [bsOf_size]; simp; omega⟩
              · cases h
          · cases h
theorem GoodR.sizes {s rest : List UInt8} {i : Nat} {vs : List Val} (h : GoodR s i rest vs) : rest.length ≤ s.length ∧ ∀ v ∈ vs, v.s.size ≤ s.length := by
  obtain ⟨b, r, rfl, hm⟩ := h
  obtain ⟨h1, h2⟩ := many_sizes oneR_sizes i r rest vs hm
  exact ⟨by simp; omega, fun v hv => by have := h2 v hv; simp; omega⟩

theorem drop_at {S : ByteArray} {l : List UInt8} (h : S.data.toList = l) {p : Nat} (hp : p < S.size) : l.drop p = S[p] :: l.drop (p + 1) := by
  have h1 : p < S.data.toList.length := by simpa using hp
  have h2 : S.data.toList[p]? = some S[p] := by rw [List.getElem?_eq_getElem h1]; rfl
  have h3 : p < l.length := by rw [← h]; exact h1
  rw [h, List.getElem?_eq_getElem h3] at h2
  rw [List.drop_eq_getElem_cons h3, Option.some.inj h2]
/-- the values that were read -/
structure Sr (w0 : World) (w : World) (v : Value) (vs : List Val) : Prop where
  own : w.ownsRow w0.heap.size 29 3 v vs.length (cellsV vs)
  bel : Below w0.heap.size w0 w
section
variable {w0 w w' : World} {v : Value} {vs : List Val}
theorem Sr.step (h : Sr w0 w v vs) (hb : Below w.heap.size w w') : Sr w0 w' v vs := ⟨own_keep h.own hb, bel_step h.bel hb h.bel.size⟩
theorem Sr.alloc (h : Sr w0 w v vs) (o : Obj) : Sr w0 (w.alloc o) v vs := h.step ((Below.refl _ _).alloc (Nat.le_refl _) _)
theorem Sr.app (h : Sr w0 w v vs) {v' : Value} {x : Val} (hown : w'.ownsRow w0.heap.size 29 3 v' (vs.length + 1) (cellsV vs ++ x.cells)) (hg : w.grownBy w' v.ownBlock) : Sr w0 w' v' (vs ++ [x]) := by
  refine ⟨?_, h.bel.grown hg h.bel.size (fun k e => (h.own.lt k e).1)⟩
  rw [cellsV_append, List.length_append]
  have : cellsV [x] = x.cells := by simp [cellsV]
  rw [this]; exact hown
end
theorem ext_mid {S : ByteArray} {l : List UInt8} (h : S.data.toList = l) (a n : Nat) : S.extract a (a + n) = bsOf ((l.drop a).take n) := by
  apply ByteArray.ext; apply Array.toList_inj.1
  rw [Lib.extract_data, bsOf_data, h]
  have e : a + n - a = n := by omega
  rw [e]
theorem ext_size {S : ByteArray} {a n : Nat} (h : a + n ≤ S.size) : (S.extract a (a + n)).size = n := by
  rw [ByteArray.size_extract]; omega
theorem vs_own {w : World} {b : Nat} {e : TypeId} {v : Value} {n : Nat} {vs : List Val} (h : w.ownsRow b e 3 v n (cellsV vs)) : ∃ A c, v = .slice A n c ∧ n ≤ c ∧ VS w A n vs := by
  rcases h.2 with ⟨rfl, h0⟩ | ⟨g, cap, cur, rfl, hb, hg, hn, _⟩
  · subst h0
    have := h.1
    rw [cellsV_length] at this
    exact ⟨none, 0, rfl, Nat.le_refl _, by omega, fun h => absurd h (by omega)⟩
  · exact ⟨_, _, rfl, hn, VS.of_own h (Array.getElem?_eq_some_iff.1 hg).1⟩

set_option maxRecDepth 100000 in
set_option maxHeartbeats 6400000 in
theorem ref_Unpack (l : List UInt8) (w : World) (hl : l.length ≤ 281474976710656) :
    Calls Try.prog 52 #[.string (bsOf l)] w (UnpackPost w (unpackR l)) := by
  obtain ⟨i0, hi, hz0, hz1, hz2⟩ := info_parts infoValue
  cases l with
  | nil =>
    have ANS := Lib.hid (show unpackR [] = none from rfl)
    have e1 : (bsOf []).toList = [] := by rw [Lib.toList_data, bsOf_data]
    go_enter Try.func52, Try.ntmps52
    go_wp2_with fail
    go_ret2
    exact UnpackPost.bad ANS.out (Below.refl _ _)
  | cons b0 r0 =>
    obtain ⟨l, hL⟩ : ∃ l, b0 :: r0 = l := ⟨_, rfl⟩
    rw [hL] at hl ⊢
    obtain ⟨S, hS⟩ : ∃ S, bsOf l = S := ⟨_, rfl⟩
    have HSL := Lib.hid (show S.data.toList = l by rw [← hS, bsOf_data])
    have lS : S.size ≤ 281474976710656 := by rw [← hS, bsOf_size]; exact hl
    have l0 : 0 < S.size := by rw [← hS, bsOf_size, ← hL]; simp
    have e1 : S.toList.isEmpty = false := by rw [Lib.toList_data, HSL.out, ← hL]; rfl
    have HE := Lib.hid hS
    have hN : hdB l = S[0].toNat := by
      have h1 : S.data.toList[0]? = some S[0] := by rw [List.getElem?_eq_getElem (by simpa using l0)]; rfl
      rw [HSL.out, ← hL] at h1
      rw [← hL]
      simp at h1
      rw [← h1]; rfl
    have HN := Lib.hid hN
    have GS := Lib.hid (show GoodR l 0 r0 [] from ⟨b0, r0, hL.symm, rfl⟩)
    have HD := Lib.hid (show l.drop 1 = r0 by rw [← hL]; rfl)
    have N256 := byte_lt S[0]
    rw [hS]
    clear hS hN hL
    go_enter Try.func52, Try.ntmps52
    go_wp2_with fail
    go_loopw [4, 5] (fun v4 v5 wr => ∃ (at_ : Nat) (vs : List Val), vs.length ≤ S[0].toNat ∧ v5 = .int .i64 (at_ : Nat) ∧ at_ ≤ S.size ∧ 1 ≤ at_ ∧ GoodR l vs.length (l.drop at_) vs ∧ Sr w wr v4 vs) (fun v4 v5 _ => (S.size - (intOf v5).toNat))
    case atStart => exact ⟨1, [], Nat.zero_le _, rfl, l0, Nat.le_refl _, by rw [HD.out]; exact GS.out, ⟨World.ownsRow_nil _ _ _ _, Below.refl _ _⟩⟩
    case round =>
      clear GS HD
      obtain ⟨p, vs, hiN, rfl, hp, hp1, hG, hS⟩ := hrel
      have HG := Lib.hid hG; have HS := Lib.hid hS
      obtain ⟨A4, c4, rfl, _, h5⟩ := vs_own hS.own
      have H5 := Lib.hid h5
      clear hG hS h5
      by_cases hin : vs.length < S[0].toNat
      · have HIN := Lib.hid (show vs.length < hdB l by rw [HN.out]; exact hin)
        have hvl : vs.length ≤ 255 := by omega
        have G1 := Lib.hid (show vs.length + 1 ≤ maxLen by unfold maxLen; omega)
        have G2 := Lib.hid (show (vs.length + 1) * 32 ≤ 140737488355328 by omega)
        by_cases hps : p < S.size
        · have HDR := Lib.hid (drop_at HSL.out hps)
          have ip : (p : Int) < (S.size : Int) := by omega
          have T0 := Lib.hid (fun w1 => relstoreref_null w1)
          by_cases k0 : S[p].toNat = 0
          · have HN1 := Lib.hid (show oneR (l.drop p) = some (⟨0, 0, ⟨#[]⟩⟩, l.drop (p + 1)) by rw [HDR.out]; simp only [oneR]; rw [if_pos k0])
            have e0 : (S[p].toNat : Int) = 0 := by omega
            clear k0
            go_upto_region 35 with (go_at_call 68; (with_reducible refine (T0.out _).mono ?_); rintro e w1 ⟨rfl, hb1⟩; have HB1 := Lib.hid (hb1.alloc hb1.size (.cells #[.int .i64 0, .int .i64 0, .string ⟨#[]⟩] 29)); have HV1 := Lib.hid (Has.new w1 29 #[.int .i64 0, .int .i64 0, .string ⟨#[]⟩]); have hzw := hb1.size; clear hb1)
            have HBx := HB1
            have HVx := HV1
            generalize w1.alloc (.cells #[.int .i64 0, .int .i64 0, .string ⟨#[]⟩] 29) = W at *
            have HSx := Lib.hid (HS.out.step HBx.out)
            obtain ⟨d0, d1, d2⟩ := HVx.out.cells3
            have dz := HVx.out.lt
            go_wp2_with ((at_builtin; refine wpList_append_src _ rfl (.tmp 84) (.tmp 86) 30 30 rfl (w.heap.size) 29 i0 _ 3 32 Try.underlying30 hi hz0 hz1 hz2 zeroCellsValue (by decide) (_) (vs.length) (_) rfl ((HSx.out.alloc _).own) (.slice (some ⟨_, 0, none⟩) 1 1) (1) ([.int .i64 0, .int .i64 0, .string ⟨#[]⟩]) rfl (Src.ofSlice _ Try.underlying30 ⟨_, 0, none⟩ 1 1 ([.int .i64 0, .int .i64 0, .string ⟨#[]⟩]) rfl (World.news_of_block (heap_alloc_new _ _)) (by simp [Value.oneCell'])) (G1.out) (G2.out) ((HSx.out.alloc _).bel.size) ?_; intro v1 w2 hown1 hg1 _ hat1); have HS3 := Lib.hid ((HSx.out.alloc _).app (x := ⟨0, 0, ⟨#[]⟩⟩) hown1 hg1); clear hown1 hg1 hat1)
            go_roundw
            case rel => exact ⟨p + 1, _, by rw [List.length_append]; simp; omega, by first | (simp; done) | (simp; omega), by omega, by omega, by rw [List.length_append]; exact HG.out.ok HN1.out, HS3.out⟩
            case measure => simp [intOf]; omega
          · have u0 : ((S[p].toNat : Int) == 0) = false := by rw [beq_eq_false_iff_ne]; omega
            by_cases k1 : S[p].toNat = 1
            · have e0 : (S[p].toNat : Int) = 1 := by omega
              by_cases hp2 : p + 2 ≤ S.size
              · have HDR2 := Lib.hid (drop_at HSL.out (p := p + 1) (by omega))
                obtain ⟨B, hB⟩ : ∃ B, (S[p + 1] == 1) = B := ⟨_, rfl⟩
                have hE : ((S.extract (p + 1) (p + 1 + 1)).toList == [1]) = B := by
                  rw [ext_mid HSL.out, HDR2.out, Lib.toList_data, bsOf_data, ← hB]
                  simp [List.take_succ_cons]
                have HN1 := Lib.hid (show oneR (l.drop p) = some (⟨1, flagN B, ⟨#[]⟩⟩, l.drop (p + 2)) by rw [HDR.out, HDR2.out]; simp only [oneR]; rw [if_neg k0, if_pos k1, hB])
                clear hB k0 k1 u0
                go_upto_region 35 with (first | (go_at_call 68; (with_reducible refine (T0.out _).mono ?_); rintro e w1 ⟨rfl, hb1⟩; have HB1 := Lib.hid (hb1.alloc hb1.size (.cells #[.int .i64 0, .int .i64 0, .string ⟨#[]⟩] 29)); have HV1 := Lib.hid (Has.new w1 29 #[.int .i64 0, .int .i64 0, .string ⟨#[]⟩]); have hzw := hb1.size; clear hb1) | (go_at_call 65; (with_reducible refine (relstoreref_truth B _).mono ?_); rintro e w3 ⟨rfl, hb3⟩; have HB3 := Lib.hid (bel_step HB1.out hb3 HB1.out.size); have HV3 := Lib.hid (HV1.out.belowS hb3); obtain ⟨d0, d1, d2⟩ := HV3.out.cells3; have df := HV3.out.frozen; have dz := HV3.out.lt; clear hb3))
                have HVx := Lib.hid (HV3.out.set3 (x := .int .i64 1) (y := .int .i64 (flagN B)) (z := .string ⟨#[]⟩))
                have HBx := Lib.hid (((HB3.out.setCell (p := ⟨w1.heap.size, 0, none⟩) hzw (.int .i64 1)).setCell (p := ⟨w1.heap.size, 1, none⟩) hzw (.int .i64 (flagN B))).setCell (p := ⟨w1.heap.size, 2, none⟩) hzw (.string ⟨#[]⟩))
                clear HB3 HV3 HB1 HV1 d0 d1 d2 df dz
                generalize ((w3.setCell ⟨w1.heap.size, 0, none⟩ (.int .i64 1)).setCell ⟨w1.heap.size, 1, none⟩ (.int .i64 (flagN B))).setCell ⟨w1.heap.size, 2, none⟩ (.string ⟨#[]⟩) = W at *
                clear hE
                have HSx := Lib.hid (HS.out.step HBx.out)
                obtain ⟨d0, d1, d2⟩ := HVx.out.cells3
                have dz := HVx.out.lt
                go_wp2_with ((at_builtin; refine wpList_append_src _ rfl (.tmp 84) (.tmp 86) 30 30 rfl (w.heap.size) 29 i0 _ 3 32 Try.underlying30 hi hz0 hz1 hz2 zeroCellsValue (by decide) (_) (vs.length) (_) rfl ((HSx.out.alloc _).own) (.slice (some ⟨_, 0, none⟩) 1 1) (1) ([.int .i64 1, .int .i64 (flagN B), .string ⟨#[]⟩]) rfl (Src.ofSlice _ Try.underlying30 ⟨_, 0, none⟩ 1 1 ([.int .i64 1, .int .i64 (flagN B), .string ⟨#[]⟩]) rfl (World.news_of_block (heap_alloc_new _ _)) (by simp [Value.oneCell'])) (G1.out) (G2.out) ((HSx.out.alloc _).bel.size) ?_; intro v1 w2 hown1 hg1 _ hat1); have HS3 := Lib.hid ((HSx.out.alloc _).app (x := ⟨1, (flagN B), ⟨#[]⟩⟩) hown1 hg1); clear hown1 hg1 hat1)
                go_roundw
                case rel => exact ⟨p + 2, _, by rw [List.length_append]; simp; omega, by first | (simp; done) | (simp; omega), by omega, by omega, by rw [List.length_append]; exact HG.out.ok HN1.out, HS3.out⟩
                case measure => simp [intOf]; omega
              · have ANS := Lib.hid (show unpackR l = none from HG.out.bad HIN.out (by rw [HDR.out, List.drop_eq_nil_of_le (by rw [← HSL.out]; simp; omega)]; simp only [oneR]; rw [if_neg k0, if_pos k1]))
                clear k0 k1 u0
                have HB := Lib.hid HS.out.bel
                go_wp2_with (first | (go_at_call 68; (with_reducible refine (T0.out _).mono ?_); rintro e w1 ⟨rfl, hb1⟩; have HB1 := Lib.hid (hb1.alloc hb1.size (.cells #[.int .i64 0, .int .i64 0, .string ⟨#[]⟩] 29)); have HV1 := Lib.hid (Has.new w1 29 #[.int .i64 0, .int .i64 0, .string ⟨#[]⟩]); have hzw := hb1.size; clear hb1))
                go_ret2
                exact UnpackPost.bad ANS.out (bel_step HB.out HB1.out HB.out.size)
            · have u1 : ((S[p].toNat : Int) == 1) = false := by rw [beq_eq_false_iff_ne]; omega
              by_cases k2 : S[p].toNat = 2
              · have e0 : (S[p].toNat : Int) = 2 := by omega
                by_cases hp2 : p + 9 ≤ S.size
                · have hl9 : 8 ≤ (l.drop (p + 1)).length := by rw [List.length_drop, ← HSL.out]; simp; omega
                  have HSZ := Lib.hid (ext_size (S := S) (a := p + 1) (n := 8) (by omega))
                  have TU := Lib.hid (fun w1 => ref_unbytes8 (S.extract (p + 1) (p + 1 + 8)) (by rw [HSZ.out]; omega) w1)
                  have hX8 := unK_lt 8 (S.extract (p + 1) (p + 1 + 8)).data.toList (by rw [Array.length_toList]; exact HSZ.out)
                  have HE8 := Lib.hid (show (S.extract (p + 1) (p + 1 + 8)).data.toList = (l.drop (p + 1)).take 8 by rw [ext_mid HSL.out, bsOf_data])
                  obtain ⟨X, hX⟩ : ∃ X, unK (S.extract (p + 1) (p + 1 + 8)).data.toList = X := ⟨_, rfl⟩
                  rw [hX] at TU hX8
                  rw [show (256 : Nat) ^ 8 = 18446744073709551616 by decide] at hX8
                  have HN1 := Lib.hid (show oneR (l.drop p) = some (⟨2, wrap64 (X : Int), ⟨#[]⟩⟩, l.drop (p + 9)) by
                    rw [HDR.out]; simp only [oneR]
                    rw [if_neg k0, if_neg k1, if_pos k2, if_pos hl9, ← HE8.out, hX, s64_wrap hX8, List.drop_drop])
                  clear hX hX8 HE8 HSZ hl9 k0 k1 k2
                  go_upto_region 35 with (first | (go_at_call 68; (with_reducible refine (T0.out _).mono ?_); rintro e w1 ⟨rfl, hb1⟩; have HB1 := Lib.hid (hb1.alloc hb1.size (.cells #[.int .i64 0, .int .i64 0, .string ⟨#[]⟩] 29)); have HV1 := Lib.hid (Has.new w1 29 #[.int .i64 0, .int .i64 0, .string ⟨#[]⟩]); have hzw := hb1.size; clear hb1) | (go_at_call 75; (with_reducible refine (TU.out _).mono ?_); rintro e w4 ⟨rfl, rfl⟩) | (go_at_call 66; (with_reducible refine (relstoreref_num (wrap64 (X : Int)) _).mono ?_); rintro e w3 ⟨rfl, hb3⟩; have HB3 := Lib.hid (bel_step HB1.out hb3 HB1.out.size); have HV3 := Lib.hid (HV1.out.belowS hb3); obtain ⟨d0, d1, d2⟩ := HV3.out.cells3; have df := HV3.out.frozen; have dz := HV3.out.lt; clear hb3))
                  have HVx := Lib.hid (HV3.out.set3 (x := .int .i64 2) (y := .int .i64 (wrap64 (X : Int))) (z := .string ⟨#[]⟩))
                  have HBx := Lib.hid (((HB3.out.setCell (p := ⟨w1.heap.size, 0, none⟩) hzw (.int .i64 2)).setCell (p := ⟨w1.heap.size, 1, none⟩) hzw (.int .i64 (wrap64 (X : Int)))).setCell (p := ⟨w1.heap.size, 2, none⟩) hzw (.string ⟨#[]⟩))
                  clear HB3 HV3 HB1 HV1 d0 d1 d2 df dz
                  generalize ((w3.setCell ⟨w1.heap.size, 0, none⟩ (.int .i64 2)).setCell ⟨w1.heap.size, 1, none⟩ (.int .i64 (wrap64 (X : Int)))).setCell ⟨w1.heap.size, 2, none⟩ (.string ⟨#[]⟩) = W at *
                  have HSx := Lib.hid (HS.out.step HBx.out)
                  obtain ⟨d0, d1, d2⟩ := HVx.out.cells3
                  have dz := HVx.out.lt
                  go_wp2_with ((at_builtin; refine wpList_append_src _ rfl (.tmp 84) (.tmp 86) 30 30 rfl (w.heap.size) 29 i0 _ 3 32 Try.underlying30 hi hz0 hz1 hz2 zeroCellsValue (by decide) (_) (vs.length) (_) rfl ((HSx.out.alloc _).own) (.slice (some ⟨_, 0, none⟩) 1 1) (1) ([.int .i64 2, .int .i64 (wrap64 (X : Int)), .string ⟨#[]⟩]) rfl (Src.ofSlice _ Try.underlying30 ⟨_, 0, none⟩ 1 1 ([.int .i64 2, .int .i64 (wrap64 (X : Int)), .string ⟨#[]⟩]) rfl (World.news_of_block (heap_alloc_new _ _)) (by simp [Value.oneCell'])) (G1.out) (G2.out) ((HSx.out.alloc _).bel.size) ?_; intro v1 w2 hown1 hg1 _ hat1); have HS3 := Lib.hid ((HSx.out.alloc _).app (x := ⟨2, (wrap64 (X : Int)), ⟨#[]⟩⟩) hown1 hg1); clear hown1 hg1 hat1)
                  go_roundw
                  case rel => exact ⟨p + 9, _, by rw [List.length_append]; simp; omega, by first | (simp; done) | (simp; omega), by omega, by omega, by rw [List.length_append]; exact HG.out.ok HN1.out, HS3.out⟩
                  case measure => simp [intOf]; omega
                · have ANS := Lib.hid (show unpackR l = none from HG.out.bad HIN.out (by rw [HDR.out]; simp only [oneR]; rw [if_neg k0, if_neg k1, if_pos k2, if_neg (by rw [List.length_drop, ← HSL.out]; first | (simp; done) | (simp; omega))]))
                  clear k0 k1 k2 u0 u1
                  have HB := Lib.hid HS.out.bel
                  go_wp2_with (first | (go_at_call 68; (with_reducible refine (T0.out _).mono ?_); rintro e w1 ⟨rfl, hb1⟩; have HB1 := Lib.hid (hb1.alloc hb1.size (.cells #[.int .i64 0, .int .i64 0, .string ⟨#[]⟩] 29)); have HV1 := Lib.hid (Has.new w1 29 #[.int .i64 0, .int .i64 0, .string ⟨#[]⟩]); have hzw := hb1.size; clear hb1))
                  go_ret2
                  exact UnpackPost.bad ANS.out (bel_step HB.out HB1.out HB.out.size)
              · have u2 : ((S[p].toNat : Int) == 2) = false := by rw [beq_eq_false_iff_ne]; omega
                by_cases k3 : S[p].toNat = 3
                · have e0 : (S[p].toNat : Int) = 3 := by omega
                  have ONE := Lib.hid (show ∀ x, oneR (S[p] :: x) = (match x with | h :: l :: r' => if 256 * h.toNat + l.toNat ≤ r'.length then some (⟨3, 0, bsOf (r'.take (256 * h.toNat + l.toNat))⟩, r'.drop (256 * h.toNat + l.toNat)) else none | _ => none) from fun x => by
                    simp only [oneR]
                    rw [if_neg k0, if_neg k1, if_neg k2, if_pos k3]
                    rfl)
                  clear k0 k1 k2 k3
                  by_cases hp2 : p + 3 ≤ S.size
                  · have HDR2 := Lib.hid (drop_at HSL.out (p := p + 1) (by omega))
                    have HDR3 := Lib.hid (drop_at HSL.out (p := p + 1 + 1) (by omega))
                    have HSZ := Lib.hid (ext_size (S := S) (a := p + 1) (n := 2) (by omega))
                    have TU := Lib.hid (fun w1 => ref_unbytes8 (S.extract (p + 1) (p + 1 + 2)) (by rw [HSZ.out]; omega) w1)
                    have ONE2 := Lib.hid (show oneR (l.drop p) = if 256 * S[p + 1].toNat + S[p + 1 + 1].toNat ≤ (l.drop (p + 1 + 1 + 1)).length then some (⟨3, 0, bsOf ((l.drop (p + 1 + 1 + 1)).take (256 * S[p + 1].toNat + S[p + 1 + 1].toNat))⟩, (l.drop (p + 1 + 1 + 1)).drop (256 * S[p + 1].toNat + S[p + 1 + 1].toNat)) else none by rw [HDR.out, HDR2.out, HDR3.out]; exact ONE.out _)
                    have hX : unK (S.extract (p + 1) (p + 1 + 2)).data.toList = 256 * S[p + 1].toNat + S[p + 1 + 1].toNat := by
                      rw [ext_mid HSL.out, bsOf_data, HDR2.out, HDR3.out]; simp [unK]
                    have b1 := byte_lt S[p + 1]
                    have b2 := byte_lt S[p + 1 + 1]
                    obtain ⟨z, hz⟩ : ∃ z, 256 * S[p + 1].toNat + S[p + 1 + 1].toNat = z := ⟨_, rfl⟩
                    rw [hX] at TU
                    simp only [hz] at TU ONE2
                    have zle : z ≤ 65535 := by omega
                    clear hX hz b1 b2 ONE
                    by_cases hfit : p + 3 + z ≤ S.size
                    · have HN1 := Lib.hid (show oneR (l.drop p) = some (⟨3, 0, S.extract (p + 1 + 2) (p + 1 + 2 + z)⟩, l.drop (p + 3 + z)) by
                        rw [ONE2.out, ext_mid HSL.out, if_pos (by rw [List.length_drop, ← HSL.out]; first | (simp; done) | (simp; omega)), List.drop_drop])
                      go_upto_region 35 with (first | (go_at_call 68; (with_reducible refine (T0.out _).mono ?_); rintro e w1 ⟨rfl, hb1⟩; have HB1 := Lib.hid (hb1.alloc hb1.size (.cells #[.int .i64 0, .int .i64 0, .string ⟨#[]⟩] 29)); have HV1 := Lib.hid (Has.new w1 29 #[.int .i64 0, .int .i64 0, .string ⟨#[]⟩]); have hzw := hb1.size; clear hb1) | (go_at_call 75; (with_reducible refine (TU.out _).mono ?_); rintro e w4 ⟨rfl, rfl⟩) | (go_at_call 67; (with_reducible refine (relstoreref_str (S.extract (p + 1 + 2) (p + 1 + 2 + z)) _).mono ?_); rintro e w3 ⟨rfl, hb3⟩; have HB3 := Lib.hid (bel_step HB1.out hb3 HB1.out.size); have HV3 := Lib.hid (HV1.out.belowS hb3); obtain ⟨d0, d1, d2⟩ := HV3.out.cells3; have df := HV3.out.frozen; have dz := HV3.out.lt; clear hb3))
                      have HVx := Lib.hid (HV3.out.set3 (x := .int .i64 3) (y := .int .i64 0) (z := .string (S.extract (p + 1 + 2) (p + 1 + 2 + z))))
                      have HBx := Lib.hid (((HB3.out.setCell (p := ⟨w1.heap.size, 0, none⟩) hzw (.int .i64 3)).setCell (p := ⟨w1.heap.size, 1, none⟩) hzw (.int .i64 0)).setCell (p := ⟨w1.heap.size, 2, none⟩) hzw (.string (S.extract (p + 1 + 2) (p + 1 + 2 + z))))
                      clear HB3 HV3 HB1 HV1 d0 d1 d2 df dz
                      generalize ((w3.setCell ⟨w1.heap.size, 0, none⟩ (.int .i64 3)).setCell ⟨w1.heap.size, 1, none⟩ (.int .i64 0)).setCell ⟨w1.heap.size, 2, none⟩ (.string (S.extract (p + 1 + 2) (p + 1 + 2 + z))) = W at *
                      have HSx := Lib.hid (HS.out.step HBx.out)
                      obtain ⟨d0, d1, d2⟩ := HVx.out.cells3
                      have dz := HVx.out.lt
                      go_wp2_with ((at_builtin; refine wpList_append_src _ rfl (.tmp 84) (.tmp 86) 30 30 rfl (w.heap.size) 29 i0 _ 3 32 Try.underlying30 hi hz0 hz1 hz2 zeroCellsValue (by decide) (_) (vs.length) (_) rfl ((HSx.out.alloc _).own) (.slice (some ⟨_, 0, none⟩) 1 1) (1) ([.int .i64 3, .int .i64 0, .string (S.extract (p + 1 + 2) (p + 1 + 2 + z))]) rfl (Src.ofSlice _ Try.underlying30 ⟨_, 0, none⟩ 1 1 ([.int .i64 3, .int .i64 0, .string (S.extract (p + 1 + 2) (p + 1 + 2 + z))]) rfl (World.news_of_block (heap_alloc_new _ _)) (by simp [Value.oneCell'])) (G1.out) (G2.out) ((HSx.out.alloc _).bel.size) ?_; intro v1 w2 hown1 hg1 _ hat1); have HS3 := Lib.hid ((HSx.out.alloc _).app (x := ⟨3, 0, (S.extract (p + 1 + 2) (p + 1 + 2 + z))⟩) hown1 hg1); clear hown1 hg1 hat1)
                      go_roundw
                      case rel => exact ⟨p + 3 + z, _, by rw [List.length_append]; simp; omega, by first | (simp; done) | (simp; omega), by omega, by omega, by rw [List.length_append]; exact HG.out.ok HN1.out, HS3.out⟩
                      case measure => simp [intOf]; omega
                    · have ANS := Lib.hid (show unpackR l = none from HG.out.bad HIN.out (by rw [ONE2.out, if_neg (by rw [List.length_drop, ← HSL.out]; first | (simp; done) | (simp; omega))]))
                      have HB := Lib.hid HS.out.bel
                      go_wp2_with (first | (go_at_call 68; (with_reducible refine (T0.out _).mono ?_); rintro e w1 ⟨rfl, hb1⟩; have HB1 := Lib.hid (hb1.alloc hb1.size (.cells #[.int .i64 0, .int .i64 0, .string ⟨#[]⟩] 29)); have HV1 := Lib.hid (Has.new w1 29 #[.int .i64 0, .int .i64 0, .string ⟨#[]⟩]); have hzw := hb1.size; clear hb1) | (go_at_call 75; (with_reducible refine (TU.out _).mono ?_); rintro e w4 ⟨rfl, rfl⟩))
                      go_ret2
                      exact UnpackPost.bad ANS.out (bel_step HB.out HB1.out HB.out.size)
                  · have ANS := Lib.hid (show unpackR l = none from HG.out.bad HIN.out (by
                      rw [HDR.out, ONE.out]
                      have hl2 : (l.drop (p + 1)).length < 2 := by rw [List.length_drop, ← HSL.out]; simp; omega
                      match l.drop (p + 1), hl2 with
                      | [], _ => rfl
                      | [_], _ => rfl))
                    clear ONE
                    have HB := Lib.hid HS.out.bel
                    go_wp2_with (first | (go_at_call 68; (with_reducible refine (T0.out _).mono ?_); rintro e w1 ⟨rfl, hb1⟩; have HB1 := Lib.hid (hb1.alloc hb1.size (.cells #[.int .i64 0, .int .i64 0, .string ⟨#[]⟩] 29)); have HV1 := Lib.hid (Has.new w1 29 #[.int .i64 0, .int .i64 0, .string ⟨#[]⟩]); have hzw := hb1.size; clear hb1))
                    go_ret2
                    exact UnpackPost.bad ANS.out (bel_step HB.out HB1.out HB.out.size)
                · have ANS := Lib.hid (show unpackR l = none from HG.out.bad HIN.out (by rw [HDR.out]; simp only [oneR]; rw [if_neg k0, if_neg k1, if_neg k2, if_neg k3]))
                  have u3 : ((S[p].toNat : Int) == 3) = false := by rw [beq_eq_false_iff_ne]; omega
                  clear k0 k1 k2 k3
                  have HB := Lib.hid HS.out.bel
                  go_wp2_with (first | (go_at_call 68; (with_reducible refine (T0.out _).mono ?_); rintro e w1 ⟨rfl, hb1⟩; have HB1 := Lib.hid (hb1.alloc hb1.size (.cells #[.int .i64 0, .int .i64 0, .string ⟨#[]⟩] 29)); have HV1 := Lib.hid (Has.new w1 29 #[.int .i64 0, .int .i64 0, .string ⟨#[]⟩]); have hzw := hb1.size; clear hb1))
                  go_ret2
                  exact UnpackPost.bad ANS.out (bel_step HB.out HB1.out HB.out.size)
        · have ANS := Lib.hid (show unpackR l = none from HG.out.bad HIN.out (by rw [List.drop_eq_nil_of_le (by rw [← HSL.out]; simp; omega)]; rfl))
          have HB := Lib.hid HS.out.bel
          have ip : ¬ (p : Int) < (S.size : Int) := by omega
          go_wp2_with fail
          go_ret2
          exact UnpackPost.bad ANS.out HB.out
      · have hvn : vs.length = S[0].toNat := by omega
        have HSZ := Lib.hid (HG.out.sizes.2)
        have TP := Lib.hid (fun w1 h1 => ref_Pack A4 vs.length c4 vs w1 h1 (by omega) (fun v hv => by have := HSZ.out v hv; omega))
        have GE : Hid (GoodR l (hdB l) (l.drop p) vs) := by
          rw [HN.out, ← hvn]; exact HG.out
        have HO := Lib.hid HS.out.own
        have HB := Lib.hid HS.out.bel
        obtain ⟨E, hE⟩ : ∃ E, packE vs = E := ⟨_, rfl⟩
        obtain ⟨T, hT⟩ : ∃ T, packS vs = T := ⟨_, rfl⟩
        rw [hE, hT] at TP
        have PK : Hid (packE vs = 0 ∧ packS vs = bsOf l ↔ E = 0 ∧ T = S) := by rw [hE, hT, HE.out]; exact Iff.rfl
        have HVS := Lib.hid H5.out
        clear hE hT H5 hvn
        by_cases e0 : E = 0
        · by_cases t0 : T = S
          · have ANS := Lib.hid (show unpackR l = some vs from GE.out.done (PK.out.2 ⟨e0, t0⟩).1 (PK.out.2 ⟨e0, t0⟩).2)
            subst e0 t0
            have f1 : (T.toList == T.toList) = true := by simp
            go_wp2_with (go_at_call 50; (with_reducible refine (TP.out _ HVS.out).mono ?_); rintro e w1 ⟨rfl, hb1⟩)
            go_ret2
            exact UnpackPost.good ANS.out (own_keep HO.out hb1) (bel_step HB.out hb1 HB.out.size)
          · have ANS := Lib.hid (show unpackR l = none from GE.out.left (fun h => t0 (PK.out.1 h).2))
            subst e0
            have f1 : (T.toList == S.toList) = false := by
              rw [beq_eq_false_iff_ne]
              intro h
              rw [Lib.toList_data, Lib.toList_data] at h
              exact t0 (ByteArray.ext (Array.toList_inj.1 h))
            clear t0
            go_wp2_with (go_at_call 50; (with_reducible refine (TP.out _ HVS.out).mono ?_); rintro e w1 ⟨rfl, hb1⟩)
            go_ret2
            exact UnpackPost.bad ANS.out (bel_step HB.out hb1 HB.out.size)
        · have ANS := Lib.hid (show unpackR l = none from GE.out.left (fun h => e0 (PK.out.1 h).1))
          have f1 : (E == 0) = false := by rw [beq_eq_false_iff_ne]; exact e0
          have f2 : (E != 0) = true := by rw [bne_iff_ne]; exact e0
          clear e0
          go_wp2_with (go_at_call 50; (with_reducible refine (TP.out _ HVS.out).mono ?_); rintro e w1 ⟨rfl, hb1⟩)
          go_ret2
          exact UnpackPost.bad ANS.out (bel_step HB.out hb1 HB.out.size)

end Go.Proofs.Ytlkkpgdgnnknpaa
