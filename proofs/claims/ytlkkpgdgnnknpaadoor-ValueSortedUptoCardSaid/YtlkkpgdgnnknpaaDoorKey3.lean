/-
  The scanner's escaped text.
-/
import Derived.Test.YtlkkpgdgnnknpaaDoorKey1
import Derived.Test.YtlkkpgdgnnknpaaDoorCode5
import Derived.Test.YtlkkpgdgnnknpaaDoorStep
namespace Go.Proofs.YtlkkpgdgnnknpaaDoor
open Go.RowKit
open Go.BigFrame
set_option linter.unusedVariables false
set_option linter.unusedSimpArgs false

theorem unesc_no : ∀ l : List UInt8, (∀ c ∈ l, c ≠ 0) → unesc l = none
  | [], _ => rfl
  | [c], _ => rfl
  | c :: d :: l, h => by
    rw [unesc, if_neg (h c (List.mem_cons_self ..)), unesc_no (d :: l) fun x hx => h x (List.mem_cons_of_mem _ hx)]; rfl
theorem unesc_pre : ∀ (a r : List UInt8), (∀ c ∈ a, c ≠ 0) → unesc (a ++ 0 :: r) = (unesc (0 :: r)).map (fun x => (a ++ x.1, x.2))
  | [], r, _ => by simp
  | c :: a, r, h => by
    have ih := unesc_pre a r fun x hx => h x (List.mem_cons_of_mem _ hx)
    obtain ⟨d, t, hd⟩ : ∃ d t, a ++ 0 :: r = d :: t := by
      cases a with
      | nil => exact ⟨_, _, rfl⟩
      | cons x y => exact ⟨_, _, rfl⟩
    rw [List.cons_append]
    rw [hd] at ih ⊢
    rw [unesc, if_neg (h c (List.mem_cons_self ..)), ih, Option.map_map]; rfl
/-- what stands at the first 0 -/
theorem unesc_at {l : List UInt8} {j : Nat} (h : Lib.indexByte l 0 = j) : (l.length = j + 1 → unesc l = none) ∧ ∀ b, l[j + 1]? = some b →
    unesc l = (if b = 1 then some (l.take j, (l.drop j).drop 2) else if b = 255 then (unesc ((l.drop j).drop 2)).map (fun x => (l.take j ++ [0] ++ x.1, x.2)) else none) := by
  obtain ⟨h1, h2, h3⟩ := zero_split h
  refine ⟨fun hl => ?_, fun b hb => ?_⟩
  · have hd : l.drop (j + 1) = [] := List.drop_of_length_le (by omega)
    rw [hd] at h1
    rw [h1, unesc_pre _ _ h2]; rfl
  · obtain ⟨hlt, hb2⟩ := List.getElem?_eq_some_iff.1 hb
    have hd : l.drop (j + 1) = b :: (l.drop j).drop 2 := by
      rw [List.drop_drop, List.drop_eq_getElem_cons hlt, hb2]
    generalize (l.drop j).drop 2 = r at *
    generalize l.take j = a at *
    rw [hd] at h1
    rw [h1, unesc_pre _ _ h2, unesc, if_pos rfl]
    by_cases b1 : b = 1
    · rw [if_pos b1, if_pos b1]; simp
    · rw [if_neg b1, if_neg b1]
      by_cases b2 : b = 255
      · rw [if_pos b2, if_pos b2, Option.map_map]
        congr 1
        funext x
        simp
      · rw [if_neg b2, if_neg b2]; rfl
def scLen (w : World) (g : Nat) : Nat := match w.cell? ⟨g, 0, none⟩ with | some (.string s) => s.size | _ => 0
theorem scLen_of {w : World} {g : Nat} {l : List UInt8} {bad : Bool} (h : Sc w g l bad) : scLen w g = l.length := by
  unfold scLen
  rw [h.cell 0]
  exact bsOf_size l
def EscPost (w : World) (g : Nat) (l : List UInt8) (e : Ending) (w' : World) : Prop :=
  ∃ t rest bad, e = .returned (.string (bsOf t)) ∧ Sc w' g rest bad ∧ w.grownBy w' (some g) ∧ (bad = false → unesc l = some (t, rest)) ∧ (bad = true → unesc l = none)
theorem grown_then {a b c : World} {g : Nat} {row : Option Nat} (h : a.grownBy b (some g)) (k : b.grownBy c row) (hr : ∀ j, row = some j → a.heap.size ≤ j) : a.grownBy c (some g) :=
  ⟨k.os.trans h.os, k.tape.trans h.tape, k.output.trans h.output, Nat.le_trans h.size k.size, fun i hi hn => (k.block i (Nat.lt_of_lt_of_le hi h.size) (fun e => by have := hr i e.symm; omega)).trans (h.block i hi hn)⟩
/-- the state of the loop: what is left, what was read -/
structure Es (w0 : World) (g : Nat) (l : List UInt8) (w : World) (v : Value) (l' acc : List UInt8) (bad : Bool) : Prop where
  sc : Sc w g l' bad
  own : w.ownsRow w0.heap.size 5 1 v acc.length (u8s acc)
  grown : w0.grownBy w (some g)
  low : g < w0.heap.size
section
variable {w0 w w' : World} {g : Nat} {l l' l2 acc : List UInt8} {v : Value} {bad bad2 : Bool}
theorem Es.far (h : Es w0 g l w v l' acc bad) : some g ≠ v.ownBlock := fun e => by
  have := (h.own.lt g e.symm).1; have := h.low; omega
theorem Es.scan (h : Es w0 g l w v l' acc bad) (h1 : Sc w' g l2 bad2) (h2 : w.grownBy w' (some g)) : Es w0 g l w' v l2 acc bad2 :=
  ⟨h1, h.own.kept h2 (by
    cases e : v.ownBlock with
    | none => exact .inl rfl
    | some k => exact .inr (fun e2 => by cases e2; have := (h.own.lt g e).1; have := h.low; omega)), grownBy_trans h.grown h2, h.low⟩
theorem Es.step (h : Es w0 g l w v l' acc bad) (hb : Below w.heap.size w w') : Es w0 g l w' v l' acc bad :=
  ⟨h.sc.belowS hb, own_keep h.own hb, grownBy_trans h.grown (below_grownBy hb), h.low⟩
theorem Es.app (h : Es w0 g l w v l' acc bad) {v' : Value} {a : List UInt8} {n : Nat} (hn : acc.length + n = (acc ++ a).length) (hown : w'.ownsRow w0.heap.size 5 1 v' (acc.length + n) (u8s (acc ++ a))) (hg : w.grownBy w' v.ownBlock) : Es w0 g l w' v' l' (acc ++ a) bad :=
  ⟨h.sc.grown hg h.far, by rw [hn] at hown; exact hown, grown_then h.grown hg (fun j hj => (h.own.lt j hj).1), h.low⟩
end

theorem own_rowlen {w : World} {B : Nat} {v : Value} {acc : List UInt8} {t : ByteArray} (h : w.ownsRow B 5 1 v (acc ++ t.data.toList).length (u8s (acc ++ t.data.toList))) : w.ownsRow B 5 1 v (acc.length + t.size) (u8s (acc ++ t.data.toList)) := by
  have e : (acc ++ t.data.toList).length = acc.length + t.size := by rw [List.length_append]; rfl
  rw [e] at h; exact h
theorem conv_row {w : World} {B : Nat} {A : Option Addr} {n c : Nat} {l : List UInt8} (h : w.ownsRow B 5 1 (.slice A n c) n (u8s l)) : (convert 55 9 (.slice A n c)).run Tryd.prog w = .ok (.string (bsOf l)) w := by
  obtain ⟨A4, c4, e, _, h4⟩ := BS.of_own h
  cases e
  exact conv_BS h4
theorem Es.app2 {w0 w w' : World} {g : Nat} {l l' acc : List UInt8} {t : ByteArray} {v v' : Value} {bad : Bool} (h : Es w0 g l w v l' (acc ++ t.data.toList) bad) (hown : w'.ownsRow w0.heap.size 5 1 v' (acc.length + t.size + 1) (u8s (acc ++ t.data.toList ++ [0]))) (hg : w.grownBy w' v.ownBlock) : Es w0 g l w' v' l' (acc ++ t.data.toList ++ [0]) bad := by
  have e : (acc ++ t.data.toList).length = acc.length + t.size := by rw [List.length_append]; rfl
  exact h.app (n := 1) (by simp only [List.length_append, List.length_cons, List.length_nil]) (by rw [e]; exact hown) hg

set_option maxRecDepth 100000 in
set_option maxHeartbeats 6400000 in
theorem scan_escaped (g : Nat) (l : List UInt8) (w : World) (h : Sc w g l false) (hl : l.length ≤ 50000000) :
    Calls Tryd.prog 58 #[.pointer (some ⟨g, 0, none⟩)] w (EscPost w g l) := by
  obtain ⟨i0, hi, hz0, hz1, hz2⟩ := info_parts infoByte
  have H0 := Lib.hid (show Es w g l w (.slice none 0 0) l [] false from ⟨h, World.ownsRow_nil _ _ _ _, grownBy_refl _ _, h.lt⟩)
  have LL := Lib.hid hl
  clear h hl
  go_enter Tryd.func58, Tryd.ntmps58
  go_wp2_with fail
  go_loopw [3] (fun v3 wr => ∃ l' acc, Es w g l wr v3 l' acc false ∧ unesc l = (unesc l').map (fun x => (acc ++ x.1, x.2)) ∧ l'.length + acc.length ≤ l.length) (fun _ wr => scLen wr g)
  case atStart => exact ⟨l, [], H0.out, by simp, by simp⟩
  case round =>
    clear H0
    obtain ⟨l', acc, hE, hU, hN⟩ := hrel
    have HE := Lib.hid hE; have HU := Lib.hid hU
    clear hE hU
    have lb : l'.length + acc.length ≤ 50000000 := by have := LL.out; omega
    obtain ⟨S, hS⟩ : ∃ S, bsOf l' = S := ⟨_, rfl⟩
    have sz : S.size = l'.length := by rw [← hS, bsOf_size]
    have IX := Lib.hid (fun w1 => index_zero l' w1)
    rw [hS] at IX
    obtain ⟨c0, c1⟩ := HE.out.sc.cells2
    rw [hS] at c0
    have cf := HE.out.sc.frozen
    have cz := HE.out.sc.lt
    have TO := Lib.hid (fun w1 l2 (h1 : Sc w1 g l2 false) (h2 : l2.length ≤ 50000000) => scan_over g l2 false (-1) w1 h1 (by omega) (.inl (by omega)))
    have hge := Lib.indexByte_ge l' 0
    have HS := Lib.hid hS
    clear hS
    by_cases hm : Lib.indexByte l' 0 = -1
    · have NO := Lib.hid (unesc_no l' (zero_none hm))
      rw [hm] at IX
      clear hm hge
      go_wp2_with (first | (go_at_call 70; refine (IX.out _).mono ?_; rintro e w1 ⟨rfl, rfl⟩) | (go_at_call 52; refine (TO.out _ _ HE.out.sc (by omega)).mono ?_; rintro e w1 ⟨rfl, hs, hg⟩; have H1 := Lib.hid (HE.out.scan hs hg); clear hs hg))
      go_ret
      exact ⟨[], [], true, rfl, H1.out.sc, H1.out.grown, (fun h => by cases h), fun _ => by rw [HU.out, NO.out]; rfl⟩
    · obtain ⟨j, hj⟩ : ∃ j : Nat, Lib.indexByte l' 0 = j := ⟨(Lib.indexByte l' 0).toNat, by omega⟩
      rw [hj] at IX
      obtain ⟨u1, u2⟩ := unesc_at hj
      have hjl := (zero_split hj).2.2
      have UA := Lib.hid u2
      clear hm hge u2
      by_cases hj1 : j + 1 = l'.length
      · have NO := Lib.hid (u1 hj1.symm)
        have je : (j : Int) + 1 = (S.size : Int) := by omega
        clear hj u1 hj1
        go_wp2_with (first | (go_at_call 70; refine (IX.out _).mono ?_; rintro e w1 ⟨rfl, rfl⟩) | (go_at_call 52; refine (TO.out _ _ HE.out.sc (by omega)).mono ?_; rintro e w1 ⟨rfl, hs, hg⟩; have H1 := Lib.hid (HE.out.scan hs hg); clear hs hg))
        go_ret
        exact ⟨[], [], true, rfl, H1.out.sc, H1.out.grown, (fun h => by cases h), fun _ => by rw [HU.out, NO.out]; rfl⟩
      · have jn : ((j : Int) + 1 == (S.size : Int)) = false := by simp only [beq_eq_false_iff_ne, ne_eq]; omega
        have jl : j + 1 < S.size := by omega
        have jl2 : (j : Int) + 1 < (S.size : Int) := by omega
        have T1 := Lib.hid (scan_take g l' false j _ HE.out.sc (by omega) (by omega))
        have T2 := Lib.hid (fun w1 (h1 : Sc w1 g (l'.drop j) false) => scan_take g (l'.drop j) false 2 w1 h1 (by rw [List.length_drop]; omega) (by rw [List.length_drop]; omega))
        have b0 : l'[j + 1]? = some S[j + 1] := by
          have e : S.data.toList = l' := by rw [← HS.out, bsOf_data]
          rw [← e]
          show S.data.toList[j + 1]? = some S.data[j + 1]
          rw [Array.getElem?_toList]
          exact Array.getElem?_eq_getElem _
        have UB := Lib.hid (UA.out _ b0)
        obtain ⟨b, hb⟩ : ∃ b, S[j + 1] = b := ⟨_, rfl⟩
        rw [hb] at UB
        obtain ⟨t, ht⟩ : ∃ t, bsOf (l'.take j) = t := ⟨_, rfl⟩
        have tz : t.size = j := by rw [← ht, bsOf_size, List.length_take]; omega
        have td := Lib.hid (show t.data.toList = l'.take j by rw [← ht, bsOf_data])
        rw [ht] at T1
        have E1 := Lib.hid (u8s_str acc t)
        have E2 := Lib.hid (u8s_k0 (acc ++ t.data.toList))
        have G1 := Lib.hid (show acc.length + t.size ≤ maxLen by unfold maxLen; omega)
        have G2 := Lib.hid (show (acc.length + t.size) * 1 ≤ 140737488355328 by omega)
        have G3 := Lib.hid (show acc.length + t.size + 1 ≤ maxLen by unfold maxLen; omega)
        have G4 := Lib.hid (show (acc.length + t.size + 1) * 1 ≤ 140737488355328 by omega)
        have LD := Lib.hid (show ((l'.drop j).drop 2).length + (acc ++ t.data.toList ++ [0]).length ≤ l.length ∧ ((l'.drop j).drop 2).length < l'.length ∧ ((l'.drop j).drop 2).length ≤ 50000000 by
          have e3 : t.data.toList.length = t.size := Array.length_toList
          simp only [List.length_append, List.length_drop, List.length_cons, List.length_nil]
          omega)
        have J0 := Lib.hid hj
        have TZ := Lib.hid tz
        have SZ := Lib.hid sz
        clear hj u1 hj1 b0 ht UA tz sz
        rw [show ((2 : Nat) : Int) = 2 from rfl] at T2
        by_cases b1 : b = 1
        · subst b1
          have bb : S[j + 1] = 1 := hb
          clear hb
          have UC := Lib.hid (show unesc l' = some (l'.take j, (l'.drop j).drop 2) from UB.out.trans (if_pos rfl))
          obtain ⟨R, hR⟩ : ∃ R, bsOf (acc ++ t.data.toList) = R := ⟨_, rfl⟩
          have RE := Lib.hid hR
          have CV := Lib.hid (fun (w1 : World) (A4 : Option Addr) (c4 : Nat) (h4 : w1.ownsRow w.heap.size 5 1 (.slice A4 (acc.length + t.size) c4) (acc.length + t.size) (u8s (acc ++ t.data.toList))) => conv_row h4)
          rw [hR] at CV
          clear hR UB
          go_upto_region 13 with (first | (go_at_call 70; refine (IX.out _).mono ?_; rintro e w1 ⟨rfl, rfl⟩) | (go_at_call 52; (with_reducible refine T1.out.mono ?_); rintro e w1 ⟨rfl, hs, hg⟩; have H1 := Lib.hid (HE.out.scan hs hg); clear hs hg) | (go_at_call 52; (with_reducible refine (T2.out _ H2.out.sc).mono ?_); rintro e w3 ⟨rfl, hs, hg⟩; have H3 := Lib.hid (H2.out.scan hs hg); clear hs hg) | ((at_builtin; refine wpList_append_src _ rfl (.tmp 32) (.tmp 35) 55 9 rfl (w.heap.size) 5 i0 _ 1 1 Tryd.underlying55 hi hz0 hz1 hz2 zeroByte1 (by decide) (_) (acc.length) (_) rfl (H1.out.own) (.string t) (t.size) (byteCells t) rfl (Src.ofString _ Tryd.underlying9 t) (G1.out) (G2.out) (H1.out.grown.size) ?_; intro v2 w2 hown2 hg2 _ hat2); rw [E1.out] at hown2; have H2 := Lib.hid (H1.out.app (by rw [List.length_append]; rfl) hown2 hg2); have O2 := Lib.hid hown2; clear hown2 hg2 hat2))
          obtain ⟨A4, c4, rfl, _⟩ := row_form (own_rowlen H3.out.own)
          have hcv := CV.out _ A4 c4 (own_rowlen H3.out.own)
          go_wp2_with fail
          go_ret
          exact ⟨acc ++ l'.take j, _, false, congrArg (fun s => Ending.returned (.string s)) (RE.out.symm.trans (by rw [td.out])), H3.out.sc, H3.out.grown, fun _ => by rw [HU.out, UC.out]; rfl, (fun h => by cases h)⟩
        by_cases b2 : b = 255
        · subst b2
          have bb : S[j + 1] = 255 := hb
          have UC := Lib.hid (show unesc l' = (unesc ((l'.drop j).drop 2)).map (fun x => (l'.take j ++ [0] ++ x.1, x.2)) from UB.out.trans ((if_neg b1).trans (if_pos rfl)))
          clear hb b1 UB
          go_wp2_with (first | (go_at_call 70; refine (IX.out _).mono ?_; rintro e w1 ⟨rfl, rfl⟩) | (go_at_call 52; (with_reducible refine T1.out.mono ?_); rintro e w1 ⟨rfl, hs, hg⟩; have H1 := Lib.hid (HE.out.scan hs hg); clear hs hg) | (go_at_call 52; (with_reducible refine (T2.out _ H2.out.sc).mono ?_); rintro e w3 ⟨rfl, hs, hg⟩; have H3 := Lib.hid (H2.out.scan hs hg); clear hs hg) | ((at_builtin; refine wpList_append_src _ rfl (.tmp 32) (.tmp 35) 55 9 rfl (w.heap.size) 5 i0 _ 1 1 Tryd.underlying55 hi hz0 hz1 hz2 zeroByte1 (by decide) (_) (acc.length) (_) rfl (H1.out.own) (.string t) (t.size) (byteCells t) rfl (Src.ofString _ Tryd.underlying9 t) (G1.out) (G2.out) (H1.out.grown.size) ?_; intro v2 w2 hown2 hg2 _ hat2); rw [E1.out] at hown2; have H2 := Lib.hid (H1.out.app (by rw [List.length_append]; rfl) hown2 hg2); have O2 := Lib.hid hown2; clear hown2 hg2 hat2) | ((at_builtin; refine wpList_append_src _ rfl (.tmp 48) (.tmp 49) 55 55 rfl (w.heap.size) 5 i0 _ 1 1 Tryd.underlying55 hi hz0 hz1 hz2 zeroByte1 (by decide) (_) (acc.length + t.size) (_) rfl ((own_rowlen H3.out.own).alloc _) (.slice (some ⟨_, 0, none⟩) 1 1) (1) ([Value.int .u8 0]) rfl (Src.ofSlice _ Tryd.underlying55 ⟨_, 0, none⟩ 1 1 ([Value.int .u8 0]) rfl (World.news_of_block (heap_alloc_new _ _)) (by simp [Value.oneCell'])) (G3.out) (G4.out) (Nat.le_trans H3.out.grown.size (by simp)) ?_; intro v4 w4 hown4 hg4 _ hat4); rw [E2.out] at hown4; have H4 := Lib.hid ((H3.out.step (below_new _ (.cells #[Value.int .u8 0] 5))).app2 hown4 hg4); clear hown4 hg4 hat4))
          go_roundw
          case rel =>
            exact ⟨_, _, H4.out, by rw [HU.out, UC.out, Option.map_map, ← td.out]; congr 1; funext x; simp, LD.out.1⟩
          case measure => rw [scLen_of H4.out.sc, scLen_of HE.out.sc]; exact LD.out.2.1
        · have n1 : ((b.toNat : Int) == 1) = false := by
            simp only [beq_eq_false_iff_ne, ne_eq]
            intro e
            exact b1 (byte_eq (n := 1) (by omega) (by omega))
          have n2 : ((b.toNat : Int) == 255) = false := by
            simp only [beq_eq_false_iff_ne, ne_eq]
            intro e
            exact b2 (byte_eq (n := 255) (by omega) (by omega))
          have UC := Lib.hid (show unesc l' = none from UB.out.trans ((if_neg b1).trans (if_neg b2)))
          clear UB b1 b2
          go_wp2_with (first | (go_at_call 70; refine (IX.out _).mono ?_; rintro e w1 ⟨rfl, rfl⟩) | (go_at_call 52; (with_reducible refine T1.out.mono ?_); rintro e w1 ⟨rfl, hs, hg⟩; have H1 := Lib.hid (HE.out.scan hs hg); clear hs hg) | (go_at_call 52; (with_reducible refine (T2.out _ H2.out.sc).mono ?_); rintro e w3 ⟨rfl, hs, hg⟩; have H3 := Lib.hid (H2.out.scan hs hg); clear hs hg) | ((at_builtin; refine wpList_append_src _ rfl (.tmp 32) (.tmp 35) 55 9 rfl (w.heap.size) 5 i0 _ 1 1 Tryd.underlying55 hi hz0 hz1 hz2 zeroByte1 (by decide) (_) (acc.length) (_) rfl (H1.out.own) (.string t) (t.size) (byteCells t) rfl (Src.ofString _ Tryd.underlying9 t) (G1.out) (G2.out) (H1.out.grown.size) ?_; intro v2 w2 hown2 hg2 _ hat2); rw [E1.out] at hown2; have H2 := Lib.hid (H1.out.app (by rw [List.length_append]; rfl) hown2 hg2); have O2 := Lib.hid hown2; clear hown2 hg2 hat2) | (go_at_call 52; (refine (TO.out _ _ H3.out.sc LD.out.2.2).mono ?_); rintro e w5 ⟨rfl, hs, hg⟩; have H5 := Lib.hid (H3.out.scan hs hg); clear hs hg))
          go_ret
          exact ⟨[], [], true, rfl, H5.out.sc, H5.out.grown, (fun h => by cases h), fun _ => by rw [HU.out, UC.out]; rfl⟩

end Go.Proofs.YtlkkpgdgnnknpaaDoor
