/-
  The methods of disk.Disk (3): Sync.
-/
import Derived.Test.YtjihboddejaelaaDisk3
namespace Go.Proofs.Ytjihboddejaelaa
open Go.RowKit
open Go.BigFrame
set_option linter.unusedVariables false
set_option linter.unusedSimpArgs false

/-- the slice value '.slice A n c' reads as these changes -/
def CS (w : World) (A : Option Addr) (n : Nat) (ws : List Ch) : Prop :=
  ws.length = n ∧ (0 < n → ∃ b off, A = some ⟨b, off, none⟩ ∧ b < w.heap.size ∧ ∀ i c, ws[i]? = some c →
    w.cell? ⟨b, off + i * 4, none⟩ = some (.int .i64 c.file) ∧ w.cell? ⟨b, off + i * 4 + 1, none⟩ = some (.int .i64 c.at_) ∧ w.cell? ⟨b, off + i * 4 + 2, none⟩ = some (.string c.text) ∧ w.cell? ⟨b, off + i * 4 + 3, none⟩ = some (.bool c.cut))
theorem CS.keep {w w' : World} {A : Option Addr} {n : Nat} {ws : List Ch} (h : CS w A n ws) (hb : Below w.heap.size w w') : CS w' A n ws :=
  ⟨h.1, fun hn => by
    obtain ⟨b, off, hA, hl, hc⟩ := h.2 hn
    refine ⟨b, off, hA, Nat.lt_of_lt_of_le hl hb.size, fun i v hv => ?_⟩
    obtain ⟨c0, c1, c2, c3⟩ := hc i v hv
    exact ⟨(hb.cell hl).trans c0, (hb.cell hl).trans c1, (hb.cell hl).trans c2, (hb.cell hl).trans c3⟩⟩
theorem chCells_length : ∀ ws : List Ch, (chCells ws).length = ws.length * 4
  | [] => rfl
  | c :: ws => by
    have := chCells_length ws
    simp only [chCells, List.flatMap_cons, List.length_append, List.length_cons] at this ⊢
    rw [this]; simp only [Ch.cells, List.length_cons, List.length_nil]; omega
theorem chCells_get : ∀ (ws : List Ch) (j : Nat), (chCells ws)[j]? = ws[j / 4]?.bind fun v => v.cells[j % 4]?
  | [], j => by simp [chCells]
  | v :: ws, j => by
    have hs : chCells (v :: ws) = v.cells ++ chCells ws := by simp [chCells]
    rw [hs]
    by_cases h : j < 4
    · rw [List.getElem?_append_left (by simpa [Ch.cells] using h), Nat.div_eq_of_lt h, Nat.mod_eq_of_lt h]
      simp
    · rw [List.getElem?_append_right (by simp [Ch.cells]; omega), show v.cells.length = 4 from rfl, chCells_get ws (j - 4)]
      have e1 : j / 4 = (j - 4) / 4 + 1 := by omega
      have e2 : j % 4 = (j - 4) % 4 := by omega
      rw [e1, e2]
      simp
theorem CS.of_own {w : World} {b : Nat} {e : TypeId} {v : Value} {n : Nat} {ws : List Ch} (h : w.ownsRow b e 4 v n (chCells ws)) : ∃ A c, v = .slice A n c ∧ n ≤ c ∧ CS w A n ws := by
  have hl : ws.length = n := by have := h.1; rw [chCells_length] at this; omega
  rcases h.2 with ⟨rfl, h0⟩ | ⟨g, cap, cur, rfl, hb, hg, hn, _⟩
  · subst h0
    exact ⟨none, 0, rfl, Nat.le_refl _, hl, fun h => absurd h (by omega)⟩
  · refine ⟨_, _, rfl, hn, hl, fun _ => ⟨g, 0, rfl, (Array.getElem?_eq_some_iff.1 hg).1, fun i c hc => ?_⟩⟩
    have gg : ∀ r u, r < 4 → c.cells[r]? = some u → w.cell? ⟨g, 0 + (i * 4 + r), none⟩ = some u := fun r u hr hu => by
      have := h.cells (g := g) rfl (i * 4 + r) u (by rw [chCells_get, show (i * 4 + r) / 4 = i by omega, show (i * 4 + r) % 4 = r by omega, hc]; exact hu)
      rw [addr_add] at this; exact this
    refine ⟨gg 0 _ (by omega) rfl, ?_, ?_, ?_⟩
    · have := gg 1 _ (by omega) rfl; simpa [Nat.add_assoc] using this
    · have := gg 2 _ (by omega) rfl; simpa [Nat.add_assoc] using this
    · have := gg 3 _ (by omega) rfl; simpa [Nat.add_assoc] using this
theorem fresh_own {A : Option Addr} {n c n' c' m : Nat} (hat : Value.ownBlock (.slice A n c) = Value.ownBlock (.slice none 0 0) ∨ Value.ownBlock (.slice A n c) = some m) : ∀ k, Value.ownBlock (.slice A n' c') = some k → m ≤ k := fun k hk => by
  cases A with
  | none => cases hk
  | some a =>
    rcases hat with e | e
    · cases e
    · have h2 : some a.block = some k := hk
      have h3 : some a.block = some m := e
      rw [h2] at h3; cases h3; exact Nat.le_refl _
theorem heap_alloc_new2 (w : World) (o o2 : Obj) : ((w.alloc o).alloc o2).heap[w.heap.size + 1]? = some o2 := by
  have := heap_alloc_new (w.alloc o) o2
  rwa [World.size_alloc] at this
def restL (ws : List Ch) (f : Nat) : List Ch := ws.filter (fun c => decide (c.file ≠ f))
theorem restL_yes {ws : List Ch} {i f : Nat} (hi : i < ws.length) (h : ws[i].file ≠ f) : restL (ws.take (i + 1)) f = restL (ws.take i) f ++ [ws[i]] := by
  unfold restL
  rw [List.take_succ_eq_append_getElem hi, List.filter_append, List.filter_cons_of_pos (by simpa using h)]; rfl
theorem restL_no {ws : List Ch} {i f : Nat} (hi : i < ws.length) (h : ws[i].file = f) : restL (ws.take (i + 1)) f = restL (ws.take i) f := by
  unfold restL
  rw [List.take_succ_eq_append_getElem hi, List.filter_append, List.filter_cons_of_neg (by simpa using h)]; simp
theorem restL_len (ws : List Ch) (f : Nat) : (restL ws f).length ≤ ws.length := List.length_filter_le _ _

set_option maxRecDepth 100000 in
set_option maxHeartbeats 3200000 in
theorem disk_Sync (g : Nat) (D : Dk) (b : List (Option Nat)) (f : Int) (w : World) (h : DP w b g D) (hok : D.ok) (hct : D.count ≤ 4000000000000000000) (hws : D.waits.length ≤ 1000000000) :
    Calls Try.prog 57 #[.pointer (some ⟨g, 0, none⟩), .int .i64 f] w (DPost w b g (D.sync f) (.int .i64 (D.syncE f))) := by
  obtain ⟨i0, hi, hz0, hz1, hz2⟩ := info_parts infoByte
  have R := Lib.hid (fun w1 => disk_right f 0 0 w1)
  have HH := Lib.hid h
  have T := Lib.hid (fun w1 (h1 : DP w1 b g D) => disk_turn g D b w1 h1 hok hct)
  have OK := Lib.hid hok
  by_cases hf : 0 ≤ f ∧ f < 2
  · rw [fitsB_yes ⟨hf.1, hf.2, by omega, by omega, by omega, by omega⟩] at R
    obtain ⟨F, rfl⟩ : ∃ F : Nat, f = F := ⟨f.toNat, by omega⟩
    obtain ⟨hf1, hf2⟩ := hf
    by_cases hst : D.stops
    · have E := Lib.hid (show D.turnE = 2 ∧ D.sync F = D.turn ∧ D.syncE F = 2 from ⟨if_pos hst, by unfold Dk.sync; rw [if_pos ⟨hf1, hf2⟩, if_pos hst], by unfold Dk.syncE; rw [if_pos ⟨hf1, hf2⟩]; exact if_pos hst⟩)
      rw [E.out.2.1, E.out.2.2]
      rw [E.out.1] at T
      clear hst h hok hct
      go_enter Try.func57, Try.ntmps57
      go_wp2_with (first | (go_at_call 96; (with_reducible refine (R.out _).mono ?_); rintro e w1 ⟨rfl, rfl⟩) | (go_at_call 100; (with_reducible refine (T.out _ HH.out).mono ?_); rintro e w2 ⟨rfl, hp⟩))
      go_ret
      exact ⟨rfl, hp⟩
    · have E := Lib.hid (show D.turnE = 0 ∧ D.syncE F = 0 from ⟨if_neg hst, by unfold Dk.syncE; rw [if_pos ⟨hf1, hf2⟩]; exact if_neg hst⟩)
      have ES := Lib.hid (show D.sync F = D.syncT F by unfold Dk.sync; rw [if_pos ⟨hf1, hf2⟩, if_neg hst]; rfl)
      have ET := Lib.hid (show D.turn = { D with fails := if 0 < D.fails then D.fails - 1 else D.fails, count := D.count + 1 } from if_neg hst)
      have EV := Lib.hid (fun k => Dk.syncT_seen D F k (by omega))
      have LS := Lib.hid (hok.seen)
      rw [E.out.2, ES.out]
      rw [E.out.1] at T
      clear hst h hok hct
      rcases (show F = 0 ∨ F = 1 by omega) with rfl | rfl
      · rw [show ((0 : Nat) : Int) = 0 from rfl] at R ⊢
        go_enter Try.func57, Try.ntmps57
        go_upto_region 6 with (first | (go_at_call 96; (with_reducible refine (R.out _).mono ?_); rintro e w1 ⟨rfl, rfl⟩) | (go_at_call 100; (with_reducible refine (T.out _ HH.out).mono ?_); rintro e w1 ⟨rfl, b1, hd1, ht1⟩))
        have HD1 := Lib.hid (show DPx w1 b1 g D.l0 (D.seen 0) D.l1 (D.seen 1) D.waits D.turn.fails D.turn.down D.turn.count by
          have h2 := hd1
          rw [ET.out] at h2 ⊢
          exact h2)
        have HT1 := Lib.hid ht1
        clear hd1 ht1
        go_cut [2] (fun s2 wx => ∃ b2, DPx wx b2 g (D.seen 0) (D.seen 0) D.l1 (D.seen 1) D.waits D.turn.fails D.turn.down D.turn.count ∧ Turn b b2 w wx)
        case first =>
          obtain ⟨v0, v1, v2, v3, v4, rfl, hO⟩ := HD1.out
          have HO := Lib.hid hO
          obtain ⟨c0, c1, c2, c3, c4, c5, c6, c7⟩ := hO.has.cells8
          have cf := hO.has.frozen
          have cz := hO.has.lt
          obtain ⟨As, cs, hvs, _, hbs⟩ := BS.of_own (l := D.seen 0) (hO.own 1 rfl)
          rw [show v1 = .slice As (D.seen 0).length cs from hvs] at c1
          have HBS := Lib.hid hbs
          clear hO hvs hbs
          have G1 := Lib.hid (show 0 + (D.seen 0).length ≤ maxLen by have := LS.out 0; unfold maxLen; omega)
          have G2 := Lib.hid (show (0 + (D.seen 0).length) * 1 ≤ 140737488355328 by have := LS.out 0; omega)
          go_region_law
            (refine step_append_src (by rfl) _ _ _ _ (by rfl) 0 5 i0 _ 1 1 Try.underlying81 hi hz0 hz1 hz2 zeroByte1 (by omega) (.slice none 0 0) 0 [] (by rfl) (World.ownsRow_nil _ _ _ _) _ (D.seen 0).length (u8s (D.seen 0)) (by rfl) ((HBS.out.keep (Below.refl _ _).drew).src Try.underlying81) G1.out G2.out (Nat.zero_le _) ?_; intro A5 k5 w5 hown5 hgrow hat; have HR := Lib.hid ((HO.out.below (Below.refl _ _).drew).row 0 (r := rowB v0 D.l0) (r' := rowB (.slice A5 (D.seen 0).length k5) (D.seen 0)) rfl (grownBy_weak hgrow) (by have h9 := hown5; rw [Nat.zero_add] at h9; exact h9) (.inr (fresh_own hat))); have gf5 := HR.out.1.has.frozen; have gc5 := HR.out.1.has.cells8; obtain ⟨g0, g1, g2, g3, g4, g5, g6, g7⟩ := gc5; have gz5 := HR.out.1.has.lt)
          all_goals
            go_wp2_with fail
            go_meet
            exact ⟨_, ⟨_, _, _, _, _, rfl, HR.out.1.set 0 _⟩, HT1.out.trans ((Turn.below _ (Below.refl _ _).drew).trans (HR.out.2.trans (Turn.set _ _ 0 _ _)))⟩
        case rest =>
          clear HD1 HT1
          obtain ⟨b2, hd2, ht2⟩ := hcut
          obtain ⟨v0, v1, v2, v3, v4, rfl, hO⟩ := hd2
          have HO := Lib.hid hO
          have HT2 := Lib.hid ht2
          obtain ⟨A4, k4, rfl, hnc, hcs⟩ := CS.of_own (show wc.ownsRow 0 112 4 v4 D.waits.length (chCells D.waits) from hO.own 4 rfl)
          have HCS := Lib.hid hcs
          obtain ⟨c0, c1, c2, c3, c4, c5, c6, c7⟩ := hO.has.cells8
          have cf := hO.has.frozen
          have cz := hO.has.lt
          clear hO ht2 hcs
          obtain ⟨i1, hi1, hz3, hz4, hz5⟩ := info_parts infoCh
          go_wp2_with fail
          go_loopw [6, 36] (fun v6 v36 wr => ∃ i : Nat, i ≤ D.waits.length ∧ v36 = .int .i64 i ∧ wr.ownsRow wc.heap.size 112 4 v6 (restL (D.waits.take i) 0).length (chCells (restL (D.waits.take i) 0)) ∧ Below wc.heap.size wc wr) (fun _ v36 _ => D.waits.length - (intOf v36).toNat)
          case atStart => exact ⟨0, Nat.zero_le _, rfl, World.ownsRow_nil _ _ _ _, Below.refl _ _⟩
          case round =>
            obtain ⟨i, hin, rfl, ho, hb⟩ := hrel
            have HRO := Lib.hid ho
            have HB := Lib.hid hb
            clear ho hb
            by_cases hi2 : i < D.waits.length
            · obtain ⟨b4, o4, rfl, hb4, hcc⟩ := HCS.out.2 (by omega)
              obtain ⟨a0, a1, a2, a3⟩ := hcc i D.waits[i] (by simp [hi2])
              obtain ⟨wcl, wfl⟩ := bcell HB.out
              have d0 := (wcl b4 (o4 + i * 4) hb4).trans a0
              have d1 := (wcl b4 (o4 + i * 4 + 1) hb4).trans a1
              have d2 := (wcl b4 (o4 + i * 4 + 2) hb4).trans a2
              have d3 := (wcl b4 (o4 + i * 4 + 3) hb4).trans a3
              have zz : b4 < wr.heap.size := by have := HB.out.size; omega
              have RY := Lib.hid (restL_yes (ws := D.waits) (f := 0) hi2)
              have RN := Lib.hid (restL_no (ws := D.waits) (f := 0) hi2)
              have RL := Lib.hid (restL_len (D.waits.take i) 0)
              obtain ⟨x, hx⟩ : ∃ x, D.waits[i] = x := ⟨_, rfl⟩
              rw [hx] at d0 d1 d2 d3
              simp only [hx] at RY RN
              clear hcc a0 a1 a2 a3 wcl wfl hx
              have tl : (D.waits.take i).length ≤ 1000000000 := by rw [List.length_take]; omega
              by_cases hxf : x.file = 0
              · have RN2 := Lib.hid (RN.out hxf)
                have xe : ((x.file : Int) != 0) = false := by rw [bne_eq_false_iff_eq]; omega
                clear RY RN
                go_wp2_with fail
                go_roundw
                case rel => exact ⟨i + 1, by omega, by simp, by rw [RN2.out]; exact HRO.out.alloc _, HB.out.alloc HB.out.size _⟩
                case measure => simp [intOf]; omega
              · have RY2 := Lib.hid (RY.out hxf)
                have xe : ((x.file : Int) != 0) = true := by rw [bne_iff_ne]; omega
                have G1 := Lib.hid (show (restL (D.waits.take i) 0).length + 1 ≤ maxLen by have := RL.out; unfold maxLen; omega)
                have G2 := Lib.hid (show ((restL (D.waits.take i) 0).length + 1) * 40 ≤ 140737488355328 by have := RL.out; omega)
                clear RY RN
                go_wp2_with (at_builtin; (refine wpList_append_src _ rfl (.tmp 44) (.tmp 46) 85 85 rfl wc.heap.size 112 i1 _ 4 40 Try.underlying85 hi1 hz3 hz4 hz5 zeroCellsCh (by decide) _ (restL (D.waits.take i) 0).length _ rfl ((HRO.out.alloc _).alloc _) (.slice (some ⟨_, 0, none⟩) 1 1) 1 x.cells rfl (Src.ofSlice _ Try.underlying85 ⟨_, 0, none⟩ 1 1 x.cells rfl (World.news_of_block (heap_alloc_new2 _ _ _)) (chCells_one x)) G1.out G2.out (Nat.le_trans HB.out.size (by simp; omega)) ?_); intro v1 w6 hown1 hg1 _ hat1; have HO6 := Lib.hid hown1; have HB6 := Lib.hid ((((HB.out.alloc HB.out.size _).alloc (Nat.le_trans HB.out.size (by simp)) _).grown hg1 (Nat.le_trans HB.out.size (by simp; omega)) (fun k hk => (HRO.out.lt k hk).1))); clear hown1 hg1 hat1)
                go_roundw
                case rel => exact ⟨i + 1, by omega, by simp, by rw [RY2.out, chCells_snoc, List.length_append]; exact HO6.out, HB6.out⟩
                case measure => simp [intOf]; omega
            · obtain rfl : i = D.waits.length := by omega
              have HOr := Lib.hid (HO.out.below HB.out)
              clear c0 c1 c2 c3 c4 c5 c6 c7 cf cz
              obtain ⟨c0, c1, c2, c3, c4, c5, c6, c7⟩ := HOr.out.has.cells8
              have cf := HOr.out.has.frozen
              have cz := HOr.out.has.lt
              obtain ⟨A6, k6, rfl, _⟩ := own_form HRO.out
              have ER := Lib.hid (show restL (D.waits.take D.waits.length) 0 = (D.syncT 0).waits by rw [List.take_length]; rfl)
              rw [ER.out] at HRO ⊢
              go_wp2_with fail
              go_ret
              have hlow : ∀ k, Value.ownBlock (.slice A6 (D.syncT 0).waits.length k6) = some k → wc.heap.size ≤ k := fun k hk => (HRO.out.lt k hk).1
              refine ⟨rfl, _, ?_, ((HT2.out.trans (Turn.below _ HB.out)).swap 4 (r' := rowC (.slice A6 (D.syncT 0).waits.length k6) (D.syncT 0).waits) (fun k hk => Nat.le_trans HT2.out.size (hlow k hk))).trans (Turn.set _ _ 4 _ _)⟩
              unfold DP
              rw [EV.out 0 (by omega), EV.out 1 (by omega)]
              exact ⟨_, _, _, _, _, rfl, ((HOr.out.swap 4 (r' := rowC (.slice A6 (D.syncT 0).waits.length k6) (D.syncT 0).waits) rfl (own_mono0 HRO.out) (fun k hk h2 => by have h3 := hlow k hk; have h4 := HO.out.lt h2; omega)).set 4 _)⟩
      · rw [show ((1 : Nat) : Int) = 1 from rfl] at R ⊢
        go_enter Try.func57, Try.ntmps57
        go_upto_region 6 with (first | (go_at_call 96; (with_reducible refine (R.out _).mono ?_); rintro e w1 ⟨rfl, rfl⟩) | (go_at_call 100; (with_reducible refine (T.out _ HH.out).mono ?_); rintro e w1 ⟨rfl, b1, hd1, ht1⟩))
        have HD1 := Lib.hid (show DPx w1 b1 g D.l0 (D.seen 0) D.l1 (D.seen 1) D.waits D.turn.fails D.turn.down D.turn.count by
          have h2 := hd1
          rw [ET.out] at h2 ⊢
          exact h2)
        have HT1 := Lib.hid ht1
        clear hd1 ht1
        go_cut [2] (fun s2 wx => ∃ b2, DPx wx b2 g D.l0 (D.seen 0) (D.seen 1) (D.seen 1) D.waits D.turn.fails D.turn.down D.turn.count ∧ Turn b b2 w wx)
        case first =>
          obtain ⟨v0, v1, v2, v3, v4, rfl, hO⟩ := HD1.out
          have HO := Lib.hid hO
          obtain ⟨c0, c1, c2, c3, c4, c5, c6, c7⟩ := hO.has.cells8
          have cf := hO.has.frozen
          have cz := hO.has.lt
          obtain ⟨As, cs, hvs, _, hbs⟩ := BS.of_own (l := D.seen 1) (hO.own 3 rfl)
          rw [show v3 = .slice As (D.seen 1).length cs from hvs] at c3
          have HBS := Lib.hid hbs
          clear hO hvs hbs
          have G1 := Lib.hid (show 0 + (D.seen 1).length ≤ maxLen by have := LS.out 1; unfold maxLen; omega)
          have G2 := Lib.hid (show (0 + (D.seen 1).length) * 1 ≤ 140737488355328 by have := LS.out 1; omega)
          go_region_law
            (refine step_append_src (by rfl) _ _ _ _ (by rfl) 0 5 i0 _ 1 1 Try.underlying81 hi hz0 hz1 hz2 zeroByte1 (by omega) (.slice none 0 0) 0 [] (by rfl) (World.ownsRow_nil _ _ _ _) _ (D.seen 1).length (u8s (D.seen 1)) (by rfl) ((HBS.out.keep (Below.refl _ _).drew).src Try.underlying81) G1.out G2.out (Nat.zero_le _) ?_; intro A5 k5 w5 hown5 hgrow hat; have HR := Lib.hid ((HO.out.below (Below.refl _ _).drew).row 2 (r := rowB v2 D.l1) (r' := rowB (.slice A5 (D.seen 1).length k5) (D.seen 1)) rfl (grownBy_weak hgrow) (by have h9 := hown5; rw [Nat.zero_add] at h9; exact h9) (.inr (fresh_own hat))); have gf5 := HR.out.1.has.frozen; have gc5 := HR.out.1.has.cells8; obtain ⟨g0, g1, g2, g3, g4, g5, g6, g7⟩ := gc5; have gz5 := HR.out.1.has.lt)
          all_goals
            go_wp2_with fail
            go_meet
            exact ⟨_, ⟨_, _, _, _, _, rfl, HR.out.1.set 2 _⟩, HT1.out.trans ((Turn.below _ (Below.refl _ _).drew).trans (HR.out.2.trans (Turn.set _ _ 2 _ _)))⟩
        case rest =>
          clear HD1 HT1
          obtain ⟨b2, hd2, ht2⟩ := hcut
          obtain ⟨v0, v1, v2, v3, v4, rfl, hO⟩ := hd2
          have HO := Lib.hid hO
          have HT2 := Lib.hid ht2
          obtain ⟨A4, k4, rfl, hnc, hcs⟩ := CS.of_own (show wc.ownsRow 0 112 4 v4 D.waits.length (chCells D.waits) from hO.own 4 rfl)
          have HCS := Lib.hid hcs
          obtain ⟨c0, c1, c2, c3, c4, c5, c6, c7⟩ := hO.has.cells8
          have cf := hO.has.frozen
          have cz := hO.has.lt
          clear hO ht2 hcs
          obtain ⟨i1, hi1, hz3, hz4, hz5⟩ := info_parts infoCh
          go_wp2_with fail
          go_loopw [6, 36] (fun v6 v36 wr => ∃ i : Nat, i ≤ D.waits.length ∧ v36 = .int .i64 i ∧ wr.ownsRow wc.heap.size 112 4 v6 (restL (D.waits.take i) 1).length (chCells (restL (D.waits.take i) 1)) ∧ Below wc.heap.size wc wr) (fun _ v36 _ => D.waits.length - (intOf v36).toNat)
          case atStart => exact ⟨0, Nat.zero_le _, rfl, World.ownsRow_nil _ _ _ _, Below.refl _ _⟩
          case round =>
            obtain ⟨i, hin, rfl, ho, hb⟩ := hrel
            have HRO := Lib.hid ho
            have HB := Lib.hid hb
            clear ho hb
            by_cases hi2 : i < D.waits.length
            · obtain ⟨b4, o4, rfl, hb4, hcc⟩ := HCS.out.2 (by omega)
              obtain ⟨a0, a1, a2, a3⟩ := hcc i D.waits[i] (by simp [hi2])
              obtain ⟨wcl, wfl⟩ := bcell HB.out
              have d0 := (wcl b4 (o4 + i * 4) hb4).trans a0
              have d1 := (wcl b4 (o4 + i * 4 + 1) hb4).trans a1
              have d2 := (wcl b4 (o4 + i * 4 + 2) hb4).trans a2
              have d3 := (wcl b4 (o4 + i * 4 + 3) hb4).trans a3
              have zz : b4 < wr.heap.size := by have := HB.out.size; omega
              have RY := Lib.hid (restL_yes (ws := D.waits) (f := 1) hi2)
              have RN := Lib.hid (restL_no (ws := D.waits) (f := 1) hi2)
              have RL := Lib.hid (restL_len (D.waits.take i) 1)
              obtain ⟨x, hx⟩ : ∃ x, D.waits[i] = x := ⟨_, rfl⟩
              rw [hx] at d0 d1 d2 d3
              simp only [hx] at RY RN
              clear hcc a0 a1 a2 a3 wcl wfl hx
              have tl : (D.waits.take i).length ≤ 1000000000 := by rw [List.length_take]; omega
              by_cases hxf : x.file = 1
              · have RN2 := Lib.hid (RN.out hxf)
                have xe : ((x.file : Int) != 1) = false := by rw [bne_eq_false_iff_eq]; omega
                clear RY RN
                go_wp2_with fail
                go_roundw
                case rel => exact ⟨i + 1, by omega, by simp, by rw [RN2.out]; exact HRO.out.alloc _, HB.out.alloc HB.out.size _⟩
                case measure => simp [intOf]; omega
              · have RY2 := Lib.hid (RY.out hxf)
                have xe : ((x.file : Int) != 1) = true := by rw [bne_iff_ne]; omega
                have G1 := Lib.hid (show (restL (D.waits.take i) 1).length + 1 ≤ maxLen by have := RL.out; unfold maxLen; omega)
                have G2 := Lib.hid (show ((restL (D.waits.take i) 1).length + 1) * 40 ≤ 140737488355328 by have := RL.out; omega)
                clear RY RN
                go_wp2_with (at_builtin; (refine wpList_append_src _ rfl (.tmp 44) (.tmp 46) 85 85 rfl wc.heap.size 112 i1 _ 4 40 Try.underlying85 hi1 hz3 hz4 hz5 zeroCellsCh (by decide) _ (restL (D.waits.take i) 1).length _ rfl ((HRO.out.alloc _).alloc _) (.slice (some ⟨_, 0, none⟩) 1 1) 1 x.cells rfl (Src.ofSlice _ Try.underlying85 ⟨_, 0, none⟩ 1 1 x.cells rfl (World.news_of_block (heap_alloc_new2 _ _ _)) (chCells_one x)) G1.out G2.out (Nat.le_trans HB.out.size (by simp; omega)) ?_); intro v1 w6 hown1 hg1 _ hat1; have HO6 := Lib.hid hown1; have HB6 := Lib.hid ((((HB.out.alloc HB.out.size _).alloc (Nat.le_trans HB.out.size (by simp)) _).grown hg1 (Nat.le_trans HB.out.size (by simp; omega)) (fun k hk => (HRO.out.lt k hk).1))); clear hown1 hg1 hat1)
                go_roundw
                case rel => exact ⟨i + 1, by omega, by simp, by rw [RY2.out, chCells_snoc, List.length_append]; exact HO6.out, HB6.out⟩
                case measure => simp [intOf]; omega
            · obtain rfl : i = D.waits.length := by omega
              have HOr := Lib.hid (HO.out.below HB.out)
              clear c0 c1 c2 c3 c4 c5 c6 c7 cf cz
              obtain ⟨c0, c1, c2, c3, c4, c5, c6, c7⟩ := HOr.out.has.cells8
              have cf := HOr.out.has.frozen
              have cz := HOr.out.has.lt
              obtain ⟨A6, k6, rfl, _⟩ := own_form HRO.out
              have ER := Lib.hid (show restL (D.waits.take D.waits.length) 1 = (D.syncT 1).waits by rw [List.take_length]; rfl)
              rw [ER.out] at HRO ⊢
              go_wp2_with fail
              go_ret
              have hlow : ∀ k, Value.ownBlock (.slice A6 (D.syncT 1).waits.length k6) = some k → wc.heap.size ≤ k := fun k hk => (HRO.out.lt k hk).1
              refine ⟨rfl, _, ?_, ((HT2.out.trans (Turn.below _ HB.out)).swap 4 (r' := rowC (.slice A6 (D.syncT 1).waits.length k6) (D.syncT 1).waits) (fun k hk => Nat.le_trans HT2.out.size (hlow k hk))).trans (Turn.set _ _ 4 _ _)⟩
              unfold DP
              rw [EV.out 0 (by omega), EV.out 1 (by omega)]
              exact ⟨_, _, _, _, _, rfl, ((HOr.out.swap 4 (r' := rowC (.slice A6 (D.syncT 1).waits.length k6) (D.syncT 1).waits) rfl (own_mono0 HRO.out) (fun k hk h2 => by have h3 := hlow k hk; have h4 := HO.out.lt h2; omega)).set 4 _)⟩
  · rw [fitsB_no (fun h => hf ⟨h.1, h.2.1⟩)] at R
    have E := Lib.hid (show D.sync f = D ∧ D.syncE f = 1 from ⟨if_neg hf, if_neg hf⟩)
    rw [E.out.1, E.out.2]
    clear hf h
    go_enter Try.func57, Try.ntmps57
    go_wp2_with (go_at_call 96; (with_reducible refine (R.out _).mono ?_); rintro e w1 ⟨rfl, rfl⟩)
    go_ret
    exact DPost.refl HH.out

end Go.Proofs.Ytjihboddejaelaa
