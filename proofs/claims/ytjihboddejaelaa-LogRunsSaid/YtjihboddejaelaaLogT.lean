/-
  The reference's Back, Append, Commit.
-/
import Derived.Test.YtjihboddejaelaaLogS
namespace Go.Proofs.Ytjihboddejaelaa
open Go.RowKit
open Go.BigFrame
set_option linter.unusedVariables false
set_option linter.unusedSimpArgs false

theorem fr_one (fs : List Fr) : ∀ u ∈ frCells fs, u.oneCell' = true := fun u hu => by
  obtain ⟨f, _, hf⟩ := List.mem_flatMap.1 hu
  simp only [Fr.cells, List.mem_cons, List.not_mem_nil, or_false] at hf
  rcases hf with rfl | rfl <;> rfl
theorem Fz9.keep {w w' : World} {A : Option Addr} {n : Nat} {fs : List Fr} (h : Fz9 w A n fs) (hb : Below w.heap.size w w') : Fz9 w' A n fs :=
  ⟨h.1, fun hn => by
    obtain ⟨b, off, hA, hl, hc⟩ := h.2 hn
    refine ⟨b, off, hA, Nat.lt_of_lt_of_le hl hb.size, fun i v hv => ?_⟩
    obtain ⟨c0, c1⟩ := hc i v hv
    exact ⟨(hb.cell hl).trans c0, (hb.cell hl).trans c1⟩⟩
theorem Fz9.src {w : World} {A : Option Addr} {n c : Nat} {fs : List Fr} (h : Fz9 w A n fs) {e' tx : TypeId} {P : Program} (hk : P.underlying tx = some (.slice e')) : Src P 2 tx (.slice A n c) n (frCells fs) w := by
  rcases Nat.eq_zero_or_pos n with rfl | hn
  · have hv : fs = [] := List.eq_nil_of_length_eq_zero h.1
    subst hv
    cases A with
    | none => exact Src.ofNil w hk c
    | some a => exact Src.ofSlice w hk a 0 c [] rfl (fun j u hu => by simp at hu) (fun u hu => by simp at hu)
  · obtain ⟨b, off, rfl, hb, hc⟩ := h.2 hn
    exact Src.ofSlice w hk _ n c _ (by rw [frCells_length, h.1]) (fun j u hu => by
      rw [addr_add]
      rw [frCells_get] at hu
      obtain ⟨f, hf, hu2⟩ := Option.bind_eq_some_iff.1 hu
      obtain ⟨c0, c1⟩ := hc _ f hf
      rcases (show j % 2 = 0 ∨ j % 2 = 1 by omega) with h2 | h2
      · rw [h2] at hu2; cases hu2
        rw [show off + j = off + j / 2 * 2 by omega]; exact c0
      · rw [h2] at hu2; cases hu2
        rw [show off + j = off + j / 2 * 2 + 1 by omega]; exact c1) (fr_one fs)
theorem infoFrame : (Try.prog.info? 120).map (fun i => (i.zero, i.size, i.bytes)) = some (some (.agg #[.int .i64 0, .string ⟨#[]⟩]), 2, 24) := by kernel_rfl
theorem zeroCellsFrame : (Value.agg #[.int .i64 0, .string ⟨#[]⟩]).cells.size = 2 := by kernel_rfl
theorem own_len2 {w : World} {b : Nat} {e : TypeId} {A : Option Addr} {n c k : Nat} {fs : List Fr} (h : w.ownsRow b e 2 (.slice A n c) n (frCells fs)) (hk : k ≤ n) : w.ownsRow b e 2 (.slice A k c) k (frCells (fs.take k)) := by
  have hl : fs.length = n := by have := h.1; rw [frCells_length] at this; omega
  refine ⟨by rw [frCells_length, List.length_take]; omega, ?_⟩
  rcases h.2 with ⟨h1, h2⟩ | ⟨g, cap, cur, hv, hbg, hg, hnc, hcm, hcs, htk⟩
  · cases h1; have : k = 0 := by omega
    subst this; exact .inl ⟨rfl, rfl⟩
  · cases hv
    refine .inr ⟨g, c, cur, rfl, hbg, hg, by omega, hcm, hcs, ?_⟩
    have e : (cur.toList.take (n * 2)).take (k * 2) = cur.toList.take (k * 2) := by rw [List.take_take, Nat.min_eq_left (by omega)]
    rw [← e, htk]
    have h3 : frCells fs = frCells (fs.take k) ++ frCells (fs.drop k) := by
      unfold frCells
      rw [← List.flatMap_append, List.take_append_drop]
    rw [h3, List.take_append_of_le_length (by rw [frCells_length, List.length_take]; omega), List.take_of_length_le (by rw [frCells_length, List.length_take]; omega)]
theorem slice_frames (A : Option Addr) (m c a : Nat) (h : a ≤ c) (w : World) : (Instr.sliceAt 67 (.slice A m c) none (some (.int .i64 a)) none).run Try.prog w = .ok (.slice A a c) w := by
  have h1 : (0 : Int) ≤ (a : Int) := by omega
  have h2 : (a : Int) ≤ (c : Int) := by omega
  go_simp
section
variable {w w' : World} {b c : List (Option Nat)} {rd r : Nat} {L : Lg}
/-- other frames, new in memory, stand in the log -/
theorem LQ.newFrames (h : LQ w b rd r c L) {v' : Value} {fs' : List Fr} (hb : Below w.heap.size w w') (hown : w'.ownsRow w.heap.size 120 2 v' fs'.length (frCells fs')) :
    ∃ c', LQ (w'.setCell ⟨r, 1, none⟩ v') b rd r c' { L with fs := fs' } ∧ Turn (b ++ c) (b ++ c') w (w'.setCell ⟨r, 1, none⟩ v') := by
  have hh := h.head
  have hlt := fun k => @LQ.lt w b c rd r L h k
  obtain ⟨h1, ⟨v, rfl, h2⟩, h3⟩ := h
  have hr : ∀ k, v'.ownBlock = some k → w.heap.size ≤ k := fun k hk => (hown.lt k hk).1
  have q1 := (h2.below hb).swap 0 (r' := rowF v' fs') rfl (own_mono0 hown) (fun k hk h4 => by
    have h5 : v'.ownBlock = some k := hk
    have := hr k h5; have := h2.lt h4; omega)
  have q2 := q1.set 1 v'
  have t1 := Turn.cell r 1 v' w'
  have hlr := h2.has.lt
  refine ⟨blks r [rowF v' fs'], ⟨(h1.below hb).turn t1 fun k hk h4 => ?_, ⟨v', rfl, q2⟩, fun k hk h4 => ?_⟩, ?_⟩
  · have : k = r := by simpa using hk
    subst this; exact hh.2 h4
  · rcases List.mem_cons.1 h4 with e | h5
    · cases e; exact hh.2 hk
    · have h6 : v'.ownBlock = some k := by simpa [rowF, eq_comm] using h5
      have := hr k h6; have := hlt k (List.mem_append_left _ hk); omega
  · refine (Turn.below (b ++ blks r [rowF v L.fs]) hb).trans' t1 (fun k hk => ?_) (fun k hk => ?_)
    · have : k = r := by simpa using hk
      subst this; exact List.mem_append_right _ hh.1
    · rcases List.mem_append.1 hk with h5 | h5
      · exact .inl (List.mem_append_left _ h5)
      · rcases List.mem_cons.1 h5 with e | h6
        · cases e; exact .inl (List.mem_append_right _ hh.1)
        · have h7 : v'.ownBlock = some k := by simpa [rowF, eq_comm] using h6
          exact .inr (hr k h7)
/-- fewer frames of the same row -/
theorem LQ.fewer (h : LQ w b rd r c L) {A : Option Addr} {k m : Nat} (hc : w.cell? ⟨r, 1, none⟩ = some (.slice A L.fs.length m)) (hk : k ≤ L.fs.length) :
    ∃ c', LQ (w.setCell ⟨r, 1, none⟩ (.slice A k m)) b rd r c' { L with fs := L.fs.take k } ∧ Turn (b ++ c) (b ++ c') w (w.setCell ⟨r, 1, none⟩ (.slice A k m)) := by
  have hh := h.head
  obtain ⟨h1, ⟨v, rfl, h2⟩, h3⟩ := h
  have e1 : v = .slice A L.fs.length m := by
    have := h2.has.cell 1
    rw [hc] at this
    exact (Option.some.inj this).symm
  subst e1
  have hl : (L.fs.take k).length = k := by rw [List.length_take]; omega
  have ho : w.ownsRow 0 120 2 (.slice A k m) (L.fs.take k).length (frCells (L.fs.take k)) := by rw [hl]; exact own_len2 (h2.own 0 rfl) hk
  have hbl : (Value.slice A k m).ownBlock = some 0 ∨ ∀ j, (Value.slice A k m).ownBlock = some j ↔ (Value.slice A L.fs.length m).ownBlock = some j := .inr fun j => by cases A <;> rfl
  obtain ⟨q1, t0⟩ := h2.row 0 (r' := rowF (.slice A k m) (L.fs.take k)) rfl (grownBy_refl _ _) ho (.inl (by cases A <;> rfl))
  have q2 := q1.set 1 (.slice A k m)
  have t1 := Turn.cell r 1 (.slice A k m) w
  have hsub : ∀ j, some j ∈ blks r [rowF (.slice A k m) (L.fs.take k)] → some j ∈ blks r [rowF (.slice A L.fs.length m) L.fs] := fun j hj => by
    rcases List.mem_cons.1 hj with e | h6
    · cases e; exact List.mem_cons_self ..
    · refine List.mem_cons_of_mem _ ?_
      simp only [List.map_cons, List.map_nil, List.mem_singleton] at h6 ⊢
      rw [h6]; cases A <;> rfl
  refine ⟨blks r [rowF (.slice A k m) (L.fs.take k)], ⟨h1.turn t1 fun j hj h4 => ?_, ⟨_, rfl, q2⟩, fun j hj h4 => h3 j hj (hsub j h4)⟩, ?_⟩
  · have : j = r := by simpa using hj
    subst this; exact hh.2 h4
  · refine (Turn.refl (b ++ blks r [rowF (.slice A L.fs.length m) L.fs]) w).trans' t1 (fun j hj => ?_) (fun j hj => ?_)
    · have : j = r := by simpa using hj
      subst this; exact List.mem_append_right _ hh.1
    · rcases List.mem_append.1 hj with h5 | h5
      · exact .inl (List.mem_append_left _ h5)
      · exact .inl (List.mem_append_right _ (hsub j h5))
end

set_option maxRecDepth 100000 in
set_option maxHeartbeats 1600000 in
theorem ref_Back (b : List (Option Nat)) (rd r : Nat) (c : List (Option Nat)) (L : Lg) (w : World) (h : LQ w b rd r c L) (hk : L.kept ≤ L.fs.length) :
    Calls Try.prog 33 #[.pointer (some ⟨r, 0, none⟩)] w (QPost w b rd r c L.back (.tuple #[])) := by
  have HL := Lib.hid h
  obtain ⟨x0, x2, x3, x4, x5, xz, xf⟩ := h.cells
  obtain ⟨A, m, x1, hm, _⟩ := h.frames
  have HX := Lib.hid x1
  have HK := Lib.hid hk
  have sl := fun w => slice_frames A L.fs.length m L.kept (by omega) w
  clear h
  go_enter Try.func33, Try.ntmps33
  go_wp2_with fail
  go_region
  all_goals
    go_wp2_with fail
    go_end0
    obtain ⟨c', q1, q2⟩ := HL.out.fewer HX.out HK.out
    exact ⟨rfl, b, c', q1.below (Below.refl _ _).drew, q2.trans (Turn.below _ (Below.refl _ _).drew)⟩

theorem append_fit {L : Lg} {k : Nat} (h : Fit L.D (k + 1)) (n : Int) (t : ByteArray) : Fit (L.append n t).D k := by
  unfold Lg.append
  split
  · exact h.write _ _ _
  · exact h.less (by omega)
theorem append_rest (L : Lg) (n : Int) (t : ByteArray) : (L.append n t).slot = L.slot ∧ (L.append n t).number = L.number ∧ (L.append n t).kept = L.kept ∧ (L.append n t).pages = L.pages ∧ (L.append n t).fs.length ≤ L.fs.length + 1 := by
  unfold Lg.append
  split
  · refine ⟨rfl, rfl, rfl, rfl, ?_⟩
    show (if L.D.stops then L.fs else L.fs ++ [_]).length ≤ _
    split
    · exact Nat.le_succ _
    · rw [List.length_append]; exact Nat.le_refl _
  · exact ⟨rfl, rfl, rfl, rfl, Nat.le_succ _⟩
theorem app_facts {w2 w6 w7 : World} {b c : List (Option Nat)} {rd r : Nat} {L : Lg} {v6 : Value} {e : TypeId} {n : Nat} {xs : List Value} {o : Obj} (h : LQ w2 b rd r c L) (hg6 : w2.grownBy w6 (Value.ownBlock (.slice none 0 0))) (ho6 : w6.ownsRow w2.heap.size e 2 v6 n xs) (hg7 : (w6.alloc o).grownBy w7 v6.ownBlock) :
    Below w2.heap.size w2 w7 ∧ (∃ A m, w7.cell? ⟨r, 1, none⟩ = some (.slice A L.fs.length m)) ∧ r < w7.heap.size ∧ ∀ i, w7.frozen? ⟨r, i, none⟩ = false := by
  have b7 : Below w2.heap.size w2 w7 := (((Below.refl w2.heap.size w2).grown hg6 (Nat.le_refl _) (fun k hk => by cases hk)).alloc hg6.size _).grown hg7 (Nat.le_trans hg6.size (by simp)) (fun k hk => (ho6.lt k hk).1)
  have L7 := h.below b7
  obtain ⟨A, m, f7, _, _⟩ := L7.frames
  exact ⟨b7, ⟨A, m, f7⟩, L7.cells.2.2.2.2.2.1, L7.cells.2.2.2.2.2.2⟩
set_option maxRecDepth 100000 in
set_option maxHeartbeats 6400000 in
theorem ref_Append (b : List (Option Nat)) (rd r : Nat) (c : List (Option Nat)) (L : Lg) (n : Int) (t : ByteArray) (w : World) (h : LQ w b rd r c L) (hfit : Fit L.D 1) (hlen : L.fs.length ≤ 100000) (htz : t.size ≤ 9223372036854775807) :
    Calls Try.prog 31 #[.pointer (some ⟨r, 0, none⟩), .int .i64 n, .string t] w (QPost w b rd r c (L.append n t) (.int .i64 (L.appendE n t))) := by
  have HL := Lib.hid h
  obtain ⟨x0, x2, x3, x4, x5, xz, xf⟩ := h.cells
  obtain ⟨A, m, x1, hm, hF⟩ := h.frames
  have HFS := Lib.hid hF
  have HF := Lib.hid hfit
  have IN := Lib.hid (fun w1 => ref_inB n 0 2147483647 w1)
  clear h hfit hF
  by_cases hn : 0 ≤ n ∧ n ≤ 2147483647
  · rw [inB_yes hn.1 hn.2] at IN
    by_cases hz : t.size = 1024
    · have hA : L.fitsA n t := ⟨hn.1, hn.2, hz⟩
      by_cases hr : L.at_ + 1028 ≤ 67108864
      · have hw : L.D.writeE 1 L.at_ (bsOf (Fr.bytes ⟨n.toNat, t⟩)) = L.D.turnE := writeE_fits (f := 1) ⟨by omega, by rw [bsOf_size, Fr.bytes_len _ hz]; exact hr⟩
        have EA := Lib.hid (show L.append n t = { L with D := L.D.write 1 L.at_ (bsOf (Fr.bytes ⟨n.toNat, t⟩)), fs := if L.D.stops then L.fs else L.fs ++ [⟨n.toNat, t⟩] } from if_pos ⟨hA, hr⟩)
        have EE := Lib.hid (show L.appendE n t = L.D.turnE from (if_pos hA).trans (if_pos hr))
        have TP := Lib.hid (fun b1 w1 (h1 : RP w1 b1 rd L.D) => refd_Write rd L.D b1 1 L.at_ (bsOf (Fr.bytes ⟨n.toNat, t⟩)) w1 h1 HF.out.ok (by have := HF.out.count; omega) (by have := HF.out.waits; omega) (by rw [bsOf_size, Fr.bytes_len _ hz]; omega))
        rw [hw] at TP
        have BY := Lib.hid (fun w1 => ref_bytes n.toNat 4 (by omega) (by omega) w1)
        have HS : bsOf (Fr.bytes ⟨n.toNat, t⟩) = bsOf (beK n.toNat 4) ++ t := by unfold Fr.bytes; rw [← bsOf_append, bsOf_of]
        rw [HS] at TP EA
        obtain ⟨s1, hs1⟩ : ∃ s, bsOf (beK n.toNat 4) = s := ⟨_, rfl⟩
        have z1 : s1.size = 4 := by rw [← hs1, bsOf_size, beK_len]
        rw [hs1] at TP BY EA
        have e0 : ((n.toNat : Nat) : Int) = n := Int.toNat_of_nonneg hn.1
        rw [e0, show ((4 : Nat) : Int) = 4 from rfl] at BY
        have z3 : ((t.size : Int) != 1024) = false := by rw [bne_eq_false_iff_eq]; omega
        have z4 : t.size ≤ 1024 := by omega
        have hat : (L.at_ : Int) = 64 + 1028 * (L.fs.length : Int) := by unfold Lg.at_; omega
        rw [hat] at TP EA
        have d3 : decide ((67108864 : Int) < 64 + 1028 * (L.fs.length : Int) + 1028) = false := by simp; omega
        have u1 : IntKind.u64.wrap n = n := (show IntKind.u64.wrap n = n % 18446744073709551616 from rfl).trans (by omega)
        rw [← u1] at BY
        clear u1
        rw [EE.out]
        have HN := Lib.hid hn
        have HZ := Lib.hid hz
        clear hs1 HS hw hat hA hr EE hz hn htz
        have LD := Lib.hid (HL.out.below (Below.refl _ _).drew)
        have HB := Lib.hid ((Below.refl w.heap.size w).drew)
        by_cases hst : L.D.stops
        · have E2 : L.D.turnE = 2 := if_pos hst
          rw [E2] at TP ⊢
          rw [if_pos hst] at EA
          clear hst E2
          go_enter Try.func31, Try.ntmps31
          go_wp2_with (go_at_call 80; refine (IN.out _).mono ?_; rintro e w1 ⟨rfl, rfl⟩)
          go_region_with (first | (go_at_call 81; (with_reducible refine (BY.out _).mono ?_); rintro e w1 ⟨rfl, hb1⟩; have H1 := Lib.hid (LD.out.below hb1); have HB1 := Lib.hid (bel_step HB.out hb1 HB.out.size); have y0 := H1.out.cells.1) | (go_at_call 52; (with_reducible refine (TP.out _ _ H1.out.disk).mono ?_); rintro e w2 ⟨rfl, b2, hd2, ht2⟩; obtain ⟨hl2, hu2⟩ := H1.out.onDisk hd2 ht2; have HL2 := Lib.hid hl2; have HT2 := Lib.hid ((Turn.below (b ++ c) HB1.out).trans hu2); clear hd2 ht2 hb1 hl2 hu2))
          all_goals
            go_wp2_with fail
            go_ret
            rw [EA.out]
            exact ⟨rfl, b2, c, HL2.out, HT2.out⟩
        · have E2 : L.D.turnE = 0 := if_neg hst
          rw [E2] at TP ⊢
          rw [if_neg hst] at EA
          clear hst E2
          obtain ⟨i0, hi, hz0, hz1, hz2⟩ := info_parts infoFrame
          have G1 := Lib.hid (show 0 + L.fs.length ≤ maxLen by unfold maxLen; omega)
          have G2 := Lib.hid (show (0 + L.fs.length) * 24 ≤ 140737488355328 by omega)
          have G3 := Lib.hid (show 0 + L.fs.length + 1 ≤ maxLen by unfold maxLen; omega)
          have G4 := Lib.hid (show (0 + L.fs.length + 1) * 24 ≤ 140737488355328 by omega)
          go_enter Try.func31, Try.ntmps31
          go_wp2_with (go_at_call 80; refine (IN.out _).mono ?_; rintro e w1 ⟨rfl, rfl⟩)
          go_region_with (first | (go_at_call 81; (with_reducible refine (BY.out _).mono ?_); rintro e w1 ⟨rfl, hb1⟩; have H1 := Lib.hid (LD.out.below hb1); have HB1 := Lib.hid (bel_step HB.out hb1 HB.out.size); have y0 := H1.out.cells.1) | (go_at_call 52; (with_reducible refine (TP.out _ _ H1.out.disk).mono ?_); rintro e w2 ⟨rfl, b2, hd2, ht2⟩; obtain ⟨hl2, hu2⟩ := H1.out.onDisk hd2 ht2; have HL2 := Lib.hid hl2; have HT2 := Lib.hid ((Turn.below (b ++ c) HB1.out).trans hu2); clear hd2 ht2 hb1 hl2 hu2))
          all_goals
            obtain ⟨A2, m2, v1, hm2, hF2⟩ := HL2.out.frames
            have HF2 := Lib.hid hF2
            obtain ⟨v0, v2, v3, v4, v5, vz, vf⟩ := HL2.out.cells
            clear hF2
            have C1 := Lib.hid v1
            dsimp only at v1
            go_wp2_with (first
              | (at_builtin; refine wpList_append_src _ rfl (.const (.slice none 0 0)) (.tmp 45) 67 67 rfl w2.heap.size 120 i0 _ 2 24 Try.underlying67 hi hz0 hz1 hz2 zeroCellsFrame (by decide) (.slice none 0 0) 0 [] rfl (World.ownsRow_nil _ _ _ _) (.slice A2 L.fs.length m2) L.fs.length (frCells L.fs) rfl (HF2.out.src Try.underlying67) G1.out G2.out (Nat.le_refl _) ?_; intro v6 w6 hown6 hg6 _ hat6; have HO6 := Lib.hid hown6; have HG6 := Lib.hid hg6; have HA6 := Lib.hid hat6; clear hown6 hg6 hat6)
              | (at_builtin; refine wpList_append_src _ rfl (.tmp 46) (.tmp 50) 67 67 rfl w2.heap.size 120 i0 _ 2 24 Try.underlying67 hi hz0 hz1 hz2 zeroCellsFrame (by decide) v6 (0 + L.fs.length) ([] ++ frCells L.fs) rfl (HO6.out.alloc _) (.slice (some ⟨w6.heap.size, 0, none⟩) 1 1) 1 [.int .i64 n, .string t] rfl (Src.ofSlice _ Try.underlying67 ⟨w6.heap.size, 0, none⟩ 1 1 [.int .i64 n, .string t] rfl (World.news_of_block (heap_alloc_new w6 _)) (by simp [Value.oneCell'])) G3.out G4.out (Nat.le_trans HG6.out.size (by simp)) ?_; intro v7 w7 hown7 hg7 _ hat7; obtain ⟨A7, m7, rfl, _⟩ := own_form hown7; have HO7 := Lib.hid hown7; obtain ⟨b7, ⟨_, _, f7⟩, z7, ff7⟩ := app_facts HL2.out HG6.out HO6.out hg7; have HB7 := Lib.hid b7; clear hown7 hg7 hat7 b7))
            go_ret
            have ho := HO7.out
            rw [Nat.zero_add, List.nil_append, show [Value.int .i64 n, .string t] = Fr.cells ⟨n.toNat, t⟩ by unfold Fr.cells; rw [Int.toNat_of_nonneg HN.out.1], ← frCells_snoc, show L.fs.length + 1 = (L.fs ++ [(⟨n.toNat, t⟩ : Fr)]).length by simp] at ho
            obtain ⟨c', q1, q2⟩ := HL2.out.newFrames HB7.out ho
            rw [show (L.fs ++ [(⟨n.toNat, t⟩ : Fr)]).length = L.fs.length + 1 by simp] at q1 q2
            rw [EA.out]
            exact ⟨rfl, b2, c', q1, HT2.out.trans q2⟩
      · have EA : L.append n t = L ∧ L.appendE n t = 8 := ⟨if_neg (fun h => hr h.2), (if_pos hA).trans (if_neg hr)⟩
        rw [EA.1, EA.2]
        have z3 : ((t.size : Int) != 1024) = false := by rw [bne_eq_false_iff_eq]; omega
        have d3 : decide ((67108864 : Int) < 64 + 1028 * (L.fs.length : Int) + 1028) = true := by unfold Lg.at_ at hr; simp; omega
        clear EA hA hr hn hz
        go_enter Try.func31, Try.ntmps31
        go_wp2_with (go_at_call 80; refine (IN.out _).mono ?_; rintro e w1 ⟨rfl, rfl⟩)
        go_ret
        exact QPost.refl HL.out
    · have EA : L.append n t = L ∧ L.appendE n t = 1 := ⟨if_neg (fun h => hz h.1.2.2), if_neg (fun h => hz h.2.2)⟩
      rw [EA.1, EA.2]
      have z3 : ((t.size : Int) != 1024) = true := by rw [bne_iff_ne]; omega
      clear EA hn hz
      go_enter Try.func31, Try.ntmps31
      go_wp2_with (go_at_call 80; refine (IN.out _).mono ?_; rintro e w1 ⟨rfl, rfl⟩)
      go_ret
      exact QPost.refl HL.out
  · rw [inB_no hn] at IN
    have EA : L.append n t = L ∧ L.appendE n t = 1 := ⟨if_neg (fun h => hn ⟨h.1.1, h.1.2.1⟩), if_neg (fun h => hn ⟨h.1, h.2.1⟩)⟩
    rw [EA.1, EA.2]
    clear EA hn
    go_enter Try.func31, Try.ntmps31
    go_wp2_with (go_at_call 80; refine (IN.out _).mono ?_; rintro e w1 ⟨rfl, rfl⟩)
    go_ret
    exact QPost.refl HL.out

end Go.Proofs.Ytjihboddejaelaa
