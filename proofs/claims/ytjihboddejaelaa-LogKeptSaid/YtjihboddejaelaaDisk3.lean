/-
  The methods of disk.Disk (2): change, Write, Cut.
-/
import Derived.Test.YtjihboddejaelaaDisk2
import Derived.Deep.RegionLaw
import Derived.Deep.AppendLies
import Derived.Deep.DeepCutAuto
namespace Go.Proofs.Ytjihboddejaelaa
open Go.RowKit
open Go.BigFrame
set_option linter.unusedVariables false
set_option linter.unusedSimpArgs false

/-- append as one step of a region that draws its order -/
theorem step_append_src {P : Program} {ops : Array Oper} {o : Oper} {a : Act} {w : World} {K : Act → World → Prop} {Q : Exit → Act → World → Prop} {E : Prop} (hgd : o.guard = none) (s x : Operand) (t tx : TypeId)
    (ho : o.op = .call { callee := .builtin .append, args := #[s, x], argTypes := #[t, tx] })
    (base : Nat) (e : TypeId) (i : TypeInfo) (z : Value) (size bytes : Nat) (ht : P.underlying t = some (.slice e)) (hi : P.info? e = some i) (hz : i.zero = some z)
    (hsize : i.size = size) (hby : i.bytes = bytes) (hzs : z.cells.size = size) (hsz : 0 < size)
    (v : Value) (n : Nat) (xs : List Value) (hs : a.eval s = v) (hown : w.ownsRow base e size v n xs)
    (y : Value) (m : Nat) (news : List Value) (hx : a.eval x = y) (hsrc : Src P size tx y m news w)
    (h63 : n + m ≤ maxLen) (hbytes : (n + m) * bytes ≤ 140737488355328) (hbase : base ≤ w.heap.size)
    (h : ∀ A c w', w'.ownsRow base e size (.slice A (n + m) c) (n + m) (xs ++ news) → w.grownBy w' v.ownBlock → (Value.ownBlock (.slice A (n + m) c) = v.ownBlock ∨ Value.ownBlock (.slice A (n + m) c) = some w.heap.size) → K (a.put o.dst (.slice A (n + m) c)) w') :
    if Region.wanted o (yielded ops a.tmps) = true then Oper.wp P o a w K Q else E := by
  have hw : Region.wanted o (yielded ops a.tmps) = true := by simp [Region.wanted, hgd]
  rw [if_pos hw]
  refine wp_append_src w s x t tx ho base e i z size bytes ht hi hz hsize hby hzs hsz v n xs hs hown y m news hx hsrc h63 hbytes hbase fun v' w' h1 h2 _ h4 => ?_
  obtain ⟨A, c, rfl, _⟩ := own_form h1
  exact h A c w' h1 h2 h4

theorem infoCh : (Try.prog.info? 112).map (fun i => (i.zero, i.size, i.bytes)) = some (some (.agg #[.int .i64 0, .int .i64 0, .string ⟨#[]⟩, .bool false]), 4, 40) := by kernel_rfl
theorem zeroCellsCh : (Value.agg #[.int .i64 0, .int .i64 0, .string ⟨#[]⟩, .bool false]).cells.size = 4 := by kernel_rfl

theorem Has.cells4 {w : World} {g : Nat} {t : TypeId} {a0 a1 a2 a3 : Value} (h : Has w g t #[a0, a1, a2, a3]) : w.cell? ⟨g, 0, none⟩ = some a0 ∧ w.cell? ⟨g, 1, none⟩ = some a1 ∧ w.cell? ⟨g, 2, none⟩ = some a2 ∧ w.cell? ⟨g, 3, none⟩ = some a3 :=
  ⟨h.cell 0, h.cell 1, h.cell 2, h.cell 3⟩
theorem chCells_snoc (ws : List Ch) (c : Ch) : chCells (ws ++ [c]) = chCells ws ++ c.cells := by simp [chCells]
theorem DPx.has {w : World} {b : List (Option Nat)} {g : Nat} {l0 s0 l1 s1 : List UInt8} {ws : List Ch} {fs : Int} {dn : Bool} {ct : Nat} (h : DPx w b g l0 s0 l1 s1 ws fs dn ct) : some g ∈ b := by
  obtain ⟨v0, v1, v2, v3, v4, rfl, hO⟩ := h
  exact List.mem_cons_self ..
theorem DPx.lt {w : World} {b : List (Option Nat)} {g : Nat} {l0 s0 l1 s1 : List UInt8} {ws : List Ch} {fs : Int} {dn : Bool} {ct : Nat} (h : DPx w b g l0 s0 l1 s1 ws fs dn ct) {k : Nat} (hk : some k ∈ b) : k < w.heap.size := by
  obtain ⟨v0, v1, v2, v3, v4, rfl, h2⟩ := h
  exact h2.lt hk
theorem DPx.below {w w' : World} {b : List (Option Nat)} {g : Nat} {l0 s0 l1 s1 : List UInt8} {ws : List Ch} {fs : Int} {dn : Bool} {ct : Nat} (h : DPx w b g l0 s0 l1 s1 ws fs dn ct) (hb : Below w.heap.size w w') : DPx w' b g l0 s0 l1 s1 ws fs dn ct := by
  obtain ⟨v0, v1, v2, v3, v4, h1, h2⟩ := h
  exact ⟨v0, v1, v2, v3, v4, h1, h2.below hb⟩
/-- a block that is not the disk's own is kept -/
theorem Has.turn {w w' : World} {b b' : List (Option Nat)} {g : Nat} {t : TypeId} {cs : Array Value} (h : Has w g t cs) (ht : Turn b b' w w') (hn : some g ∉ b) : Has w' g t cs := (ht.block g h.lt hn).trans h
theorem Turn.not {w w' : World} {b b' : List (Option Nat)} (ht : Turn b b' w w') {k : Nat} (hk : k < w.heap.size) (hn : some k ∉ b) : some k ∉ b' := fun h => by
  rcases ht.new k h with h2 | h2
  · exact hn h2
  · omega

theorem chCells_one (c : Ch) : ∀ u ∈ c.cells, u.oneCell' = true := fun u hu => by
  simp only [Ch.cells, List.mem_cons, List.not_mem_nil, or_false] at hu
  rcases hu with rfl | rfl | rfl | rfl <;> rfl
/-- one change more waits: the row has grown -/
theorem ob_app {w w' : World} {g : Nat} {l0 s0 l1 s1 : List UInt8} {ws : List Ch} {fs : Int} {dn : Bool} {ct : Nat} {v0 v1 v2 v3 v4 v' : Value} {c : Ch} {o : Obj}
    (h : Ob w g 87 (dCells fs dn ct v0 v1 v2 v3 v4) (dRows l0 s0 l1 s1 ws v0 v1 v2 v3 v4))
    (hown : w'.ownsRow 0 112 4 v' (ws.length + 1) (chCells ws ++ c.cells)) (hg : (w.drew.alloc o).grownBy w' v4.ownBlock) (hat : v'.ownBlock = v4.ownBlock ∨ v'.ownBlock = some (w.drew.alloc o).heap.size) :
    Ob w' g 87 (dCells fs dn ct v0 v1 v2 v3 v4) (dRows l0 s0 l1 s1 (ws ++ [c]) v0 v1 v2 v3 v') ∧ Turn (blks g (dRows l0 s0 l1 s1 ws v0 v1 v2 v3 v4)) (blks g (dRows l0 s0 l1 s1 (ws ++ [c]) v0 v1 v2 v3 v')) w w' := by
  have hb : Below w.heap.size w (w.drew.alloc o) := (Below.refl _ _).drew.alloc (Nat.le_refl _) _
  have := (h.below hb).row 4 (r := rowC v4 ws) (r' := rowC v' (ws ++ [c])) rfl hg (by
    show w'.ownsRow 0 112 4 v' (ws ++ [c]).length (chCells (ws ++ [c]))
    rw [chCells_snoc, List.length_append]; exact hown) (hat.imp id fun e k hk => by
      have hk2 : v'.ownBlock = some k := hk
      rw [e] at hk2; cases hk2; exact Nat.le_refl _)
  exact ⟨this.1, (Turn.below _ hb).trans this.2⟩
set_option maxRecDepth 100000 in
set_option maxHeartbeats 3200000 in
theorem disk_change (g : Nat) (D : Dk) (b : List (Option Nat)) (c : Ch) (w : World) (h : DP w b g D) (hok : D.ok) (hct : D.count ≤ 4000000000000000000) (hws : D.waits.length ≤ 1000000000) (hc : c.fits) :
    Calls Try.prog 98 #[.pointer (some ⟨g, 0, none⟩), chVal c] w (DPost w b g (D.change c) (.int .i64 D.turnE)) := by
  obtain ⟨i0, hi, hz0, hz1, hz2⟩ := info_parts infoCh
  have HBX := Lib.hid (Has.new w 112 #[.int .i64 c.file, .int .i64 c.at_, .string c.text, .bool c.cut])
  have HB0 := Lib.hid ((Below.refl w.heap.size w).alloc (Nat.le_refl _) (.cells #[.int .i64 c.file, .int .i64 c.at_, .string c.text, .bool c.cut] 112))
  have NB := Lib.hid (show some w.heap.size ∉ b from fun h2 => by have := h.lt h2; omega)
  have HH := Lib.hid h
  have T := Lib.hid (fun w1 (h1 : DP w1 b g D) => disk_turn g D b w1 h1 hok hct)
  have FIT := Lib.hid hc
  have OK := Lib.hid hok
  have hcf : c.file < 2 := hc.1
  show Calls Try.prog 98 #[.pointer (some ⟨g, 0, none⟩), .agg #[.int .i64 c.file, .int .i64 c.at_, .string c.text, .bool c.cut]] w _
  clear h hok hc hct
  by_cases hst : D.stops
  · have E := Lib.hid (show D.turnE = 2 ∧ D.change c = D.turn from ⟨if_pos hst, if_pos hst⟩)
    rw [E.out.2]
    rw [E.out.1] at T ⊢
    clear hst
    go_enter Try.func98, Try.ntmps98
    go_wp2_with (go_at_call 100; (with_reducible refine (T.out _ (HH.out.below HB0.out)).mono ?_); rintro e w1 ⟨rfl, b1, hd1, ht1⟩)
    go_ret
    exact ⟨rfl, b1, hd1, (Turn.below b HB0.out).trans ht1⟩
  · have E := Lib.hid (show D.turnE = 0 from if_neg hst)
    have EC := Lib.hid (show D.change c = { D.turn with waits := D.waits ++ [c] } from if_neg hst)
    have ET := Lib.hid (show D.turn = { D with fails := if 0 < D.fails then D.fails - 1 else D.fails, count := D.count + 1 } from if_neg hst)
    have EW := Lib.hid (fun k => Dk.change_seen D c hst k)
    have EL := Lib.hid (show (D.change c).l0 = D.l0 ∧ (D.change c).l1 = D.l1 ∧ (D.change c).waits = D.waits ++ [c] ∧ (D.change c).fails = D.turn.fails ∧ (D.change c).down = D.turn.down ∧ (D.change c).count = D.turn.count by rw [EC.out]; refine ⟨?_, ?_, rfl, rfl, rfl, rfl⟩ <;> (rw [ET.out]))
    rw [E.out] at T ⊢
    clear hst
    go_enter Try.func98, Try.ntmps98
    go_upto_region 4 with (go_at_call 100; (with_reducible refine (T.out _ (HH.out.below HB0.out)).mono ?_); rintro e w1 ⟨rfl, b1, hd1, ht1⟩)
    have HD1 := Lib.hid (show DPx w1 b1 g D.l0 (D.seen 0) D.l1 (D.seen 1) D.waits D.turn.fails D.turn.down D.turn.count by
      have h2 := hd1
      rw [ET.out] at h2 ⊢
      exact h2)
    have HT1 := Lib.hid ((Turn.below b HB0.out).trans ht1)
    have HX1 := Lib.hid (HBX.out.turn ht1 NB.out)
    have NB1 := Lib.hid (ht1.not (by simp) NB.out)
    clear hd1 ht1
    go_cut [3] (fun s3 wx => s3 = .pointer (some ⟨w.heap.size, 0, none⟩) ∧ ∃ b2, DPx wx b2 g D.l0 (D.seen 0) D.l1 (D.seen 1) (D.waits ++ [c]) D.turn.fails D.turn.down D.turn.count ∧ Turn b b2 w wx ∧ Has wx w.heap.size 112 #[.int .i64 c.file, .int .i64 c.at_, .string c.text, .bool c.cut] ∧ some w.heap.size ∉ b2)
    case first =>
      obtain ⟨v0, v1, v2, v3, v4, rfl, hO⟩ := HD1.out
      have HO := Lib.hid hO
      obtain ⟨c0, c1, c2, c3, c4, c5, c6, c7⟩ := hO.has.cells8
      have cf := hO.has.frozen
      have cz := hO.has.lt
      obtain ⟨x0, x1, x2, x3⟩ := HX1.out.cells4
      have xz := HX1.out.lt
      clear hO
      have G1 := Lib.hid (show D.waits.length + 1 ≤ maxLen by unfold maxLen; omega)
      have G2 := Lib.hid (show (D.waits.length + 1) * 40 ≤ 140737488355328 by omega)
      go_region_law
        (refine step_append_src (by rfl) _ _ _ _ (by rfl) 0 112 i0 _ 4 40 Try.underlying85 hi hz0 hz1 hz2 zeroCellsCh (by omega) v4 D.waits.length (chCells D.waits) (by rfl) ((HO.out.own 4 rfl).drew.alloc _) _ 1 c.cells (by rfl) (Src.ofSlice _ Try.underlying85 ⟨_, 0, none⟩ 1 1 c.cells rfl (World.news_of_block (heap_alloc_new _ _)) (chCells_one c)) G1.out G2.out (Nat.zero_le _) ?_; intro A5 k5 w5 hown5 hgrow hat; have HR := Lib.hid (ob_app HO.out hown5 hgrow hat); have gf5 := HR.out.1.has.frozen; have gc5 := HR.out.1.has.cells8.2.2.2.2.1; have gz5 := HR.out.1.has.lt)
      all_goals
        go_wp2_with fail
        go_meet
        have nb5 := HR.out.2.not HX1.out.lt NB1.out
        refine ⟨rfl, _, ⟨v0, v1, v2, v3, _, rfl, HR.out.1.set 4 _⟩, HT1.out.trans (HR.out.2.trans (Turn.set _ _ _ _ _)), (HX1.out.turn HR.out.2 NB1.out).turn (Turn.set g _ 4 _ w5) nb5, nb5⟩
    case rest =>
      clear HD1 HT1 HX1 NB1
      obtain ⟨rfl, b2, hd2, ht2, hx2, nb2⟩ := hcut
      obtain ⟨v0, v1, v2, v3, v4, rfl, hO⟩ := hd2
      have HO := Lib.hid hO
      have HT2 := Lib.hid ht2
      have HX2 := Lib.hid hx2
      have NB2 := Lib.hid nb2
      have cz := hO.has.lt
      obtain ⟨x0, x1, x2, x3⟩ := hx2.cells4
      have xz := hx2.lt
      clear hO ht2 hx2 nb2
      have OKS := Lib.hid (OK.out.seen)
      rcases (show c.file = 0 ∨ c.file = 1 by omega) with hf | hf
      · have xf : (c.file : Int) = 0 := by omega
        have EW0 := Lib.hid (show (D.change c).seen 0 = c.done (D.seen 0) by rw [EW.out, if_pos hf])
        have EW1 := Lib.hid (show (D.change c).seen 1 = D.seen 1 by rw [EW.out, if_neg (by omega)])
        have HF := Lib.hid hf
        clear hf
        go_wp2_with fail
        refine wp_region_cls (wc) (by kernel_rfl) (by kernel_rfl) (Cls.start _) ?_
        repeat
          first
            | go_big_quiet_skip
            | (go_big_quiet_want; (first | go_big_quiet_op | go_simp); first | go_big_quiet_on | (apply Exists.intro; refine ⟨fun w' hw' => ?_, ?_⟩; (· (first | (with_reducible exact rfl) | (fail) | (obtain ⟨hc, hf⟩ := hw'.facts; go_simp; first | done | (with_reducible exact rfl) | (with_reducible exact ⟨rfl, rfl⟩)))); go_big_quiet_on))
        refine wpQuiet_nil ?_
        intro wq hq
        have HQ := Lib.hid hq
        have HO2 := Lib.hid (HO.out.below hq)
        have HX3 := Lib.hid (HX2.out.belowS hq)
        clear hq x0 x1 x2 x3 xz cz
        obtain ⟨x0, x1, x2, x3⟩ := HX3.out.cells4
        have xz := HX3.out.lt
        obtain ⟨c0, c1, c2, c3, c4, c5, c6, c7⟩ := HO2.out.has.cells8
        have cf := HO2.out.has.frozen
        have cz := HO2.out.has.lt
        go_wp2_with fail
        have T2 := Lib.hid (fun w1 h1 => disk_done c v1 (D.seen 0) w1 h1 (OKS.out 0) FIT.out)
        unfold chVal at T2
        rw [xf] at T2
        go_region_law
          (first | (go_simp; go_at_call 76; (with_reducible refine (T2.out _ ((HO2.out.own 1 rfl).drew)).mono ?_); rintro e w5 ⟨v', rfl, hown5, hr5⟩; obtain ⟨A5, k5, rfl, _⟩ := own_form hown5; have HR := Lib.hid ((HO2.out.below (Below.refl _ _).drew).row 1 (r := rowB v1 (D.seen 0)) (r' := rowB _ (c.done (D.seen 0))) rfl hr5.grown hown5 hr5.at_); have gf5 := HR.out.1.has.frozen; have gc5 := HR.out.1.has.cells8; obtain ⟨g0, g1, g2, g3, g4, g5, g6, g7⟩ := gc5; have gz5 := HR.out.1.has.lt))
        all_goals
          go_wp2_with fail
          go_ret
          refine ⟨rfl, _, ?_, HT2.out.trans ((Turn.below _ HQ.out).trans ((Turn.below _ (Below.refl _ _).drew).trans (HR.out.2.trans (Turn.set _ _ 1 _ _))))⟩
          unfold DP
          rw [EW0.out, EW1.out, EL.out.1, EL.out.2.1, EL.out.2.2.1, EL.out.2.2.2.1, EL.out.2.2.2.2.1, EL.out.2.2.2.2.2]
          exact ⟨_, _, _, _, _, rfl, HR.out.1.set 1 _⟩
      · have xf : (c.file : Int) = 1 := by omega
        have EW0 := Lib.hid (show (D.change c).seen 1 = c.done (D.seen 1) by rw [EW.out, if_pos hf])
        have EW1 := Lib.hid (show (D.change c).seen 0 = D.seen 0 by rw [EW.out, if_neg (by omega)])
        have HF := Lib.hid hf
        clear hf
        go_wp2_with fail
        refine wp_region_cls (wc) (by kernel_rfl) (by kernel_rfl) (Cls.start _) ?_
        repeat
          first
            | go_big_quiet_skip
            | (go_big_quiet_want; (first | go_big_quiet_op | go_simp); first | go_big_quiet_on | (apply Exists.intro; refine ⟨fun w' hw' => ?_, ?_⟩; (· (first | (with_reducible exact rfl) | (fail) | (obtain ⟨hc, hf⟩ := hw'.facts; go_simp; first | done | (with_reducible exact rfl) | (with_reducible exact ⟨rfl, rfl⟩)))); go_big_quiet_on))
        refine wpQuiet_nil ?_
        intro wq hq
        have HQ := Lib.hid hq
        have HO2 := Lib.hid (HO.out.below hq)
        have HX3 := Lib.hid (HX2.out.belowS hq)
        clear hq x0 x1 x2 x3 xz cz
        obtain ⟨x0, x1, x2, x3⟩ := HX3.out.cells4
        have xz := HX3.out.lt
        obtain ⟨c0, c1, c2, c3, c4, c5, c6, c7⟩ := HO2.out.has.cells8
        have cf := HO2.out.has.frozen
        have cz := HO2.out.has.lt
        go_wp2_with fail
        have T2 := Lib.hid (fun w1 h1 => disk_done c v3 (D.seen 1) w1 h1 (OKS.out 1) FIT.out)
        unfold chVal at T2
        rw [xf] at T2
        go_region_law
          (first | (go_simp; go_at_call 76; (with_reducible refine (T2.out _ ((HO2.out.own 3 rfl).drew)).mono ?_); rintro e w5 ⟨v', rfl, hown5, hr5⟩; obtain ⟨A5, k5, rfl, _⟩ := own_form hown5; have HR := Lib.hid ((HO2.out.below (Below.refl _ _).drew).row 3 (r := rowB v3 (D.seen 1)) (r' := rowB _ (c.done (D.seen 1))) rfl hr5.grown hown5 hr5.at_); have gf5 := HR.out.1.has.frozen; have gc5 := HR.out.1.has.cells8; obtain ⟨g0, g1, g2, g3, g4, g5, g6, g7⟩ := gc5; have gz5 := HR.out.1.has.lt))
        all_goals
          go_wp2_with fail
          go_ret
          refine ⟨rfl, _, ?_, HT2.out.trans ((Turn.below _ HQ.out).trans ((Turn.below _ (Below.refl _ _).drew).trans (HR.out.2.trans (Turn.set _ _ 3 _ _))))⟩
          unfold DP
          rw [EW0.out, EW1.out, EL.out.1, EL.out.2.1, EL.out.2.2.1, EL.out.2.2.2.1, EL.out.2.2.2.2.1, EL.out.2.2.2.2.2]
          exact ⟨_, _, _, _, _, rfl, HR.out.1.set 3 _⟩

theorem DPost.refl {w : World} {b : List (Option Nat)} {g : Nat} {D : Dk} {r : Value} (h : DP w b g D) : DPost w b g D r (.returned r) w := ⟨rfl, b, h, Turn.refl _ _⟩
set_option maxRecDepth 100000 in
set_option maxHeartbeats 1600000 in
theorem disk_Write (g : Nat) (D : Dk) (b : List (Option Nat)) (f a : Int) (s : ByteArray) (w : World) (h : DP w b g D) (hok : D.ok) (hct : D.count ≤ 4000000000000000000) (hws : D.waits.length ≤ 1000000000) (hs : s.size ≤ 9223372036854775807) :
    Calls Try.prog 51 #[.pointer (some ⟨g, 0, none⟩), .int .i64 f, .int .i64 a, .string s] w (DPost w b g (D.write f a s) (.int .i64 (D.writeE f a s))) := by
  have R := Lib.hid (fun w1 => disk_right f a s.size w1)
  have HH := Lib.hid h
  by_cases hf : fitsF f a s.size
  · rw [fitsB_yes hf] at R
    have T := Lib.hid (fun w1 (h1 : DP w1 b g D) => disk_change g D b ⟨f.toNat, a.toNat, s, false⟩ w1 h1 hok hct hws ⟨by show f.toNat < 2; have := hf.1; have := hf.2.1; omega, by show a.toNat ≤ _; have := hf.2.2.2.2.1; omega, by show a.toNat + s.size ≤ _; obtain ⟨h1, h2, h3, h4, h5, h6⟩ := hf; omega, fun h => by cases h⟩)
    have E := Lib.hid (show D.write f a s = D.change ⟨f.toNat, a.toNat, s, false⟩ ∧ D.writeE f a s = D.turnE from ⟨if_pos hf, if_pos hf⟩)
    rw [E.out.1, E.out.2]
    unfold chVal at T
    simp only at T
    rw [show ((f.toNat : Nat) : Int) = f from Int.toNat_of_nonneg hf.1, show ((a.toNat : Nat) : Int) = a from Int.toNat_of_nonneg hf.2.2.1] at T
    obtain ⟨x, hx⟩ : ∃ x, D.turnE = x := ⟨_, rfl⟩
    obtain ⟨D', hD'⟩ : ∃ x, D.change ⟨f.toNat, a.toNat, s, false⟩ = x := ⟨_, rfl⟩
    rw [hx, hD'] at T ⊢
    clear hx hD' hok hct hws h hf
    go_enter Try.func51, Try.ntmps51
    go_wp2_with (first | (go_at_call 96; (with_reducible refine (R.out _).mono ?_); rintro e w1 ⟨rfl, rfl⟩) | (go_at_call 98; (with_reducible refine (T.out _ HH.out).mono ?_); rintro e w2 ⟨rfl, hp⟩))
    go_ret
    exact ⟨rfl, hp⟩
  · rw [fitsB_no hf] at R
    have E := Lib.hid (show D.write f a s = D ∧ D.writeE f a s = 1 from ⟨if_neg hf, if_neg hf⟩)
    rw [E.out.1, E.out.2]
    clear hf h
    go_enter Try.func51, Try.ntmps51
    go_wp2_with (go_at_call 96; (with_reducible refine (R.out _).mono ?_); rintro e w1 ⟨rfl, rfl⟩)
    go_ret
    exact DPost.refl HH.out
set_option maxRecDepth 100000 in
set_option maxHeartbeats 1600000 in
theorem disk_Cut (g : Nat) (D : Dk) (b : List (Option Nat)) (f a : Int) (w : World) (h : DP w b g D) (hok : D.ok) (hct : D.count ≤ 4000000000000000000) (hws : D.waits.length ≤ 1000000000) :
    Calls Try.prog 53 #[.pointer (some ⟨g, 0, none⟩), .int .i64 f, .int .i64 a] w (DPost w b g (D.cutD f a) (.int .i64 (D.cutE f a))) := by
  have R := Lib.hid (fun w1 => disk_right f a 0 w1)
  have HH := Lib.hid h
  by_cases hf : fitsF f a 0
  · rw [fitsB_yes hf] at R
    have T := Lib.hid (fun w1 (h1 : DP w1 b g D) => disk_change g D b ⟨f.toNat, a.toNat, ⟨#[]⟩, true⟩ w1 h1 hok hct hws ⟨by show f.toNat < 2; have := hf.1; have := hf.2.1; omega, by show a.toNat ≤ _; have := hf.2.2.2.2.1; omega, by show a.toNat + 0 ≤ _; obtain ⟨h1, h2, h3, h4, h5, h6⟩ := hf; omega, fun _ => rfl⟩)
    have E := Lib.hid (show D.cutD f a = D.change ⟨f.toNat, a.toNat, ⟨#[]⟩, true⟩ ∧ D.cutE f a = D.turnE from ⟨if_pos hf, if_pos hf⟩)
    rw [E.out.1, E.out.2]
    unfold chVal at T
    simp only at T
    rw [show ((f.toNat : Nat) : Int) = f from Int.toNat_of_nonneg hf.1, show ((a.toNat : Nat) : Int) = a from Int.toNat_of_nonneg hf.2.2.1] at T
    obtain ⟨x, hx⟩ : ∃ x, D.turnE = x := ⟨_, rfl⟩
    obtain ⟨D', hD'⟩ : ∃ x, D.change ⟨f.toNat, a.toNat, ⟨#[]⟩, true⟩ = x := ⟨_, rfl⟩
    rw [hx, hD'] at T ⊢
    clear hx hD' hok hct hws h hf
    go_enter Try.func53, Try.ntmps53
    go_wp2_with (first | (go_at_call 96; (with_reducible refine (R.out _).mono ?_); rintro e w1 ⟨rfl, rfl⟩) | (go_at_call 98; (with_reducible refine (T.out _ HH.out).mono ?_); rintro e w2 ⟨rfl, hp⟩))
    go_ret
    exact ⟨rfl, hp⟩
  · rw [fitsB_no hf] at R
    have E := Lib.hid (show D.cutD f a = D ∧ D.cutE f a = 1 from ⟨if_neg hf, if_neg hf⟩)
    rw [E.out.1, E.out.2]
    clear hf h
    go_enter Try.func53, Try.ntmps53
    go_wp2_with (go_at_call 96; (with_reducible refine (R.out _).mono ?_); rintro e w1 ⟨rfl, rfl⟩)
    go_ret
    exact DPost.refl HH.out

end Go.Proofs.Ytjihboddejaelaa
