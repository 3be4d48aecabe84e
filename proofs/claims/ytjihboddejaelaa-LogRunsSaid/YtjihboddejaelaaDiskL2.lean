/-
  The law DiskRuns (2): sameInts, disks.
-/
import Derived.Test.YtjihboddejaelaaDiskL1
namespace Go.Proofs.Ytjihboddejaelaa
open Go.RowKit
open Go.BigFrame
set_option linter.unusedVariables false
set_option linter.unusedSimpArgs false

theorem infoInt : (Try.prog.info? 3).map (fun i => (i.zero, i.size, i.bytes)) = some (some (.int .i64 0), 1, 8) := by kernel_rfl
theorem zeroCellsInt : (Value.int .i64 0).cells.size = 1 := by kernel_rfl
def intVs (ks : List Int) : List Value := ks.map (fun k => .int .i64 k)
theorem intVs_one (ks : List Int) : ∀ u ∈ intVs ks, u.oneCell' = true := fun u hu => by
  obtain ⟨k, _, rfl⟩ := List.mem_map.1 hu; rfl
theorem intVs_get (ks : List Int) (j : Nat) : (intVs ks)[j]? = (ks[j]?).map (fun k => .int .i64 k) := by simp [intVs]
theorem IS.src {w : World} {A : Option Addr} {n c : Nat} {ks : List Int} (h : IS w A n ks) {e' tx : TypeId} {P : Program} (hk : P.underlying tx = some (.slice e')) : Src P 1 tx (.slice A n c) n (intVs ks) w := by
  rcases Nat.eq_zero_or_pos n with rfl | hn
  · have hv : ks = [] := List.eq_nil_of_length_eq_zero h.1
    subst hv
    cases A with
    | none => exact Src.ofNil w hk c
    | some a => exact Src.ofSlice w hk a 0 c [] rfl (fun j u hu => by simp at hu) (fun u hu => by simp at hu)
  · obtain ⟨b, off, rfl, hb, hc⟩ := h.2 hn
    exact Src.ofSlice w hk _ n c _ (by simp [intVs, h.1]) (fun j u hu => by
      rw [addr_add]
      rw [intVs_get] at hu
      obtain ⟨v, hv, rfl⟩ := Option.map_eq_some_iff.1 hu
      exact hc j v hv) (intVs_one ks)
theorem IS.of_own {w : World} {base : Nat} {e : TypeId} {v : Value} {n : Nat} {ks : List Int} (h : w.ownsRow base e 1 v n (intVs ks)) : ∃ A c, v = .slice A n c ∧ n ≤ c ∧ IS w A n ks ∧ blkOf A = v.ownBlock := by
  have hl : ks.length = n := by have := h.1; simp [intVs] at this; exact this
  rcases h.2 with ⟨rfl, h0⟩ | ⟨g, cap, cur, rfl, hb, hgg, hnc, _⟩
  · subst h0
    exact ⟨none, 0, rfl, Nat.le_refl _, ⟨hl, fun h => absurd h (by omega)⟩, rfl⟩
  · refine ⟨_, _, rfl, hnc, ⟨hl, fun _ => ⟨g, 0, rfl, (Array.getElem?_eq_some_iff.1 hgg).1, fun i u hu => ?_⟩⟩, rfl⟩
    have := h.cells (g := g) rfl i (.int .i64 u) (by rw [intVs_get, hu]; rfl)
    rw [addr_add] at this; exact this

set_option maxHeartbeats 1600000 in
theorem law_sameInts (A A' : Option Addr) (n c c' : Nat) (ks : List Int) (w : World) (h : IS w A n ks) (h' : IS w A' n ks) (hn : n ≤ 9223372036854775807) :
    Calls Try.prog 59 #[.slice A n c, .slice A' n c'] w fun e w' => e = .returned (.bool true) ∧ Below w.heap.size w w' := by
  go_enter Try.func59, Try.ntmps59
  go_wp2_with fail
  go_loopw [5, 13] (fun _ i wr => ∃ k : Nat, k ≤ n ∧ i = .int .i64 k ∧ Below w.heap.size w wr) (fun _ i _ => n - (intOf i).toNat)
  case atStart => exact ⟨0, Nat.zero_le _, rfl, Below.refl _ _⟩
  case round =>
    obtain ⟨k, hk, rfl, hbel⟩ := hrel
    by_cases h1 : k < n
    · obtain ⟨b, off, rfl, hbl, hc⟩ := h.2 (by omega)
      obtain ⟨b', off', rfl, hbl', hc'⟩ := h'.2 (by omega)
      have hl : k < ks.length := by rw [h.1]; exact h1
      have a0 := hc k ks[k] (by simp [hl])
      have b0 := hc' k ks[k] (by simp [hl])
      obtain ⟨wc, wf⟩ := bcell hbel
      have z1 : b < wr.heap.size := by have := hbel.size; omega
      have z2 : b' < wr.heap.size := by have := hbel.size; omega
      have i1 : (k : Int) < (n : Int) := by omega
      obtain ⟨x, hx⟩ : ∃ x, ks[k] = x := ⟨_, rfl⟩
      rw [hx] at a0 b0
      clear hc hc' hx hl
      go_wp2_with fail
      refine wp_region_cls (wr) (by kernel_rfl) (by kernel_rfl) (Cls.start _) ?_
      repeat
        first
          | go_big_quiet_skip
          | (go_big_quiet_want; (first | go_big_quiet_op | go_simp); first | go_big_quiet_on | (apply Exists.intro; refine ⟨fun w' hw' => ?_, ?_⟩; (· (first | (with_reducible exact rfl) | (fail) | (obtain ⟨hc, hf⟩ := hw'.facts; go_simp; first | done | (with_reducible exact rfl) | (with_reducible exact ⟨rfl, rfl⟩)))); go_big_quiet_on))
      refine wpQuiet_nil ?_
      intro wq hq
      have hb2 := bel_step hbel hq hbel.size
      go_wp2_with fail
      go_roundw
      case rel => exact ⟨k + 1, by omega, by go_num, hb2⟩
      case measure => simp [intOf]; omega
    · go_wp2
      go_ret
      exact ⟨rfl, hbel⟩

/-- a step of a script, as it lies in memory -/
structure ActV where
  kind : Int
  f : Int
  at_ : Int
  n : Int
  s : ByteArray
  t : ByteArray
  kA : Option Addr
  kn : Nat
  kc : Nat
  ks : List Int
  cA : Option Addr
  cn : Nat
  cc : Nat
def ActV.arr (a : ActV) : Array Value := #[.int .i64 a.kind, .int .i64 a.f, .int .i64 a.at_, .int .i64 a.n, .string a.s, .string a.t, .slice a.kA a.kn a.kc, .slice a.cA a.cn a.cc]
/-- what holds of a step that was read -/
structure ActV.Ok (a : ActV) (w : World) : Prop where
  keep : IS w a.kA a.kn a.ks
  lt : 0 < a.kn → ∀ k, blkOf a.kA = some k → k < w.heap.size
  len : a.kn * 8 ≤ 140737488355328
  s : a.s.size ≤ 9223372036854775807
  n : a.n ≤ 9223372036854775807
theorem ActV.Ok.below {a : ActV} {w w' : World} (h : a.Ok w) (hb : Below w.heap.size w w') : a.Ok w' := ⟨h.keep.keep hb, fun h0 k hk => Nat.lt_of_lt_of_le (h.lt h0 k hk) hb.size, h.len, h.s, h.n⟩
def stepD (D : Dk) (a : ActV) : Dk :=
  if a.kind = 2 then D.write a.f a.at_ a.s else if a.kind = 3 then D.cutD a.f a.at_ else if a.kind = 5 then D.sync a.f else if a.kind = 6 then D.fail a.n else if a.kind = 7 then D.crash a.ks else D
def DisksPost (w0 : World) (g r : Nat) (D : Dk) (e : Ending) (w' : World) : Prop := e = .returned (.bool true) ∧ ∃ b c, Two w0 w' g r b c D D

theorem turn_len (D : Dk) : D.turn.waits.length = D.waits.length ∧ D.turn.count ≤ D.count + 1 := by
  unfold Dk.turn; split
  · exact ⟨rfl, Nat.le_succ _⟩
  · exact ⟨rfl, Nat.le_refl _⟩
theorem change_len2 (D : Dk) (c : Ch) : (D.change c).waits.length ≤ D.waits.length + 1 ∧ (D.change c).count ≤ D.count + 1 := by
  unfold Dk.change
  split
  · have := turn_len D; omega
  · refine ⟨?_, (turn_len D).2⟩
    show (D.waits ++ [c]).length ≤ _
    rw [List.length_append]; simp
theorem write_len (D : Dk) (f a : Int) (s : ByteArray) : (D.write f a s).waits.length ≤ D.waits.length + 1 ∧ (D.write f a s).count ≤ D.count + 1 := by
  unfold Dk.write; split
  · exact change_len2 _ _
  · omega
theorem cut_len (D : Dk) (f a : Int) : (D.cutD f a).waits.length ≤ D.waits.length + 1 ∧ (D.cutD f a).count ≤ D.count + 1 := by
  unfold Dk.cutD; split
  · exact change_len2 _ _
  · omega
theorem sync_len (D : Dk) (f : Int) : (D.sync f).waits.length ≤ D.waits.length ∧ (D.sync f).count ≤ D.count + 1 := by
  unfold Dk.sync; split
  · split
    · have := turn_len D; omega
    · exact ⟨List.length_filter_le _ _, (turn_len D).2⟩
  · omega
theorem stepD_len (D : Dk) (a : ActV) : (stepD D a).waits.length ≤ D.waits.length + 1 ∧ (stepD D a).count ≤ D.count + 1 := by
  unfold stepD
  split
  · exact write_len _ _ _ _
  · split
    · exact cut_len _ _ _
    · split
      · have := sync_len D a.f; omega
      · split
        · exact ⟨Nat.le_succ _, Nat.le_succ _⟩
        · split
          · exact ⟨Nat.zero_le _, Nat.le_succ _⟩
          · omega
theorem stepD_ok {D : Dk} (h : D.ok) {a : ActV} (hn : a.n ≤ 9223372036854775807) : (stepD D a).ok := by
  unfold stepD
  split
  · exact Dk.write_ok h _ _ _
  · split
    · exact Dk.cut_ok h _ _
    · split
      · exact Dk.sync_ok h _
      · split
        · exact Dk.fail_ok h hn
        · split
          · exact Dk.crash_ok h _
          · exact h
theorem Has.arr {w : World} {g : Nat} {t : TypeId} {a : ActV} (h : Has w g t a.arr) : w.cell? ⟨g, 0, none⟩ = some (.int .i64 a.kind) ∧ w.cell? ⟨g, 1, none⟩ = some (.int .i64 a.f) ∧ w.cell? ⟨g, 2, none⟩ = some (.int .i64 a.at_) ∧ w.cell? ⟨g, 3, none⟩ = some (.int .i64 a.n) ∧ w.cell? ⟨g, 4, none⟩ = some (.string a.s) ∧ w.cell? ⟨g, 6, none⟩ = some (.slice a.kA a.kn a.kc) :=
  ⟨h.cell 0, h.cell 1, h.cell 2, h.cell 3, h.cell 4, h.cell 6⟩

set_option maxRecDepth 100000 in
set_option maxHeartbeats 6400000 in
theorem law_disks (w0 : World) (g r : Nat) (b c : List (Option Nat)) (D : Dk) (a : ActV) (w : World) (h : Two w0 w g r b c D D) (hok : D.ok) (hws : D.waits.length ≤ 999999999) (hct : D.count ≤ 3999999999999999999) (ha : a.Ok w) (hlow : 0 < a.kn → ∀ k, blkOf a.kA = some k → k < w0.heap.size) :
    Calls Try.prog 10 #[.pointer (some ⟨g, 0, none⟩), .pointer (some ⟨r, 0, none⟩), .agg a.arr] w (DisksPost w0 g r (stepD D a)) := by
  have HBX := Lib.hid (Has.new w 31 a.arr)
  have HB0 := Lib.hid (below_mk w (.cells a.arr 31))
  have H0 := Lib.hid (h.step (below_mk w (.cells a.arr 31)))
  have AO := Lib.hid (ha.below (below_mk w (.cells a.arr 31)))
  have OK := Lib.hid hok
  have GL := Lib.hid hlow
  have NB := Lib.hid (show some w.heap.size ∉ b ∧ some w.heap.size ∉ c from ⟨fun h2 => by have := h.p.lt h2; omega, fun h2 => by have := h.q.lt h2; omega⟩)
  clear h hok ha hlow
  by_cases k1 : a.kind = 1
  ·
    have ES := Lib.hid (show stepD D a = D by unfold stepD; rw [k1]; rfl)
    rw [ES.out]
    have TP := Lib.hid (fun w1 (h1 : DP w1 b g D) => disk_Read g D b a.f a.at_ a.n w1 h1 OK.out)
    have TR := Lib.hid (fun w1 (h1 : RP w1 c r D) => refd_Read r D c a.f a.at_ a.n w1 h1 OK.out (by omega))
    obtain ⟨S, hS⟩ : ∃ S, D.readS a.f a.at_ a.n = S := ⟨_, rfl⟩
    obtain ⟨E, hE⟩ : ∃ S, D.readE a.f a.at_ a.n = S := ⟨_, rfl⟩
    rw [hS, hE] at TP TR
    have s1 : (S.toList == S.toList) = true := by simp
    clear hS hE
    go_enter Try.func10, Try.ntmps10
    go_upto_region 1 with fail
    generalize w.alloc (.cells a.arr 31) = W at *
    obtain ⟨x0, x1, x2, x3, x4, x6⟩ := HBX.out.arr
    have xz := HBX.out.lt
    rw [k1] at x0
    clear k1
    go_wp2_with (first | (go_at_call 49; (with_reducible refine (TP.out _ H0.out.p).mono ?_); rintro e w1 ⟨rfl, rfl⟩) | (go_at_call 50; (with_reducible refine (TR.out _ H0.out.q).mono ?_); rintro e w1 ⟨rfl, hb1⟩; have H1 := Lib.hid (H0.out.step hb1)) | (go_at_call 27; refine (law_numS _ _).mono ?_; rintro e w1 ⟨rfl, rfl⟩))
    go_ret
    exact ⟨rfl, _, _, H1.out⟩
  by_cases k4 : a.kind = 4
  ·
    have ES := Lib.hid (show stepD D a = D by unfold stepD; rw [k4]; rfl)
    rw [ES.out]
    have TP := Lib.hid (fun w1 (h1 : DP w1 b g D) => disk_Size g D b a.f w1 h1 OK.out)
    have TR := Lib.hid (fun w1 (h1 : RP w1 c r D) => refd_Size r D c a.f w1 h1 OK.out (by omega))
    obtain ⟨S, hS⟩ : ∃ S, D.sizeN a.f = S := ⟨_, rfl⟩
    obtain ⟨E, hE⟩ : ∃ S, D.sizeE a.f = S := ⟨_, rfl⟩
    rw [hS, hE] at TP TR
    clear hS hE
    go_enter Try.func10, Try.ntmps10
    go_upto_region 1 with fail
    generalize w.alloc (.cells a.arr 31) = W at *
    obtain ⟨x0, x1, x2, x3, x4, x6⟩ := HBX.out.arr
    have xz := HBX.out.lt
    rw [k4] at x0
    clear k4
    go_wp2_with (first | (go_at_call 55; (with_reducible refine (TP.out _ H0.out.p).mono ?_); rintro e w1 ⟨rfl, rfl⟩) | (go_at_call 56; (with_reducible refine (TR.out _ H0.out.q).mono ?_); rintro e w1 ⟨rfl, hb1⟩; have H1 := Lib.hid (H0.out.step hb1)) | (go_at_call 27; refine (law_numS _ _).mono ?_; rintro e w1 ⟨rfl, rfl⟩))
    go_ret
    exact ⟨rfl, _, _, H1.out⟩
  by_cases k2 : a.kind = 2
  ·
    have ES := Lib.hid (show stepD D a = D.write a.f a.at_ a.s by unfold stepD; rw [k2]; rfl)
    rw [ES.out]
    have TP := Lib.hid (fun b1 w1 (h1 : DP w1 b1 g D) => disk_Write g D b1 a.f a.at_ a.s w1 h1 OK.out (by omega) (by omega) AO.out.s)
    have TR := Lib.hid (fun c1 w1 (h1 : RP w1 c1 r D) => refd_Write r D c1 a.f a.at_ a.s w1 h1 OK.out (by omega) (by omega) AO.out.s)
    obtain ⟨E, hE⟩ : ∃ S, D.writeE a.f a.at_ a.s = S := ⟨_, rfl⟩
    obtain ⟨D', hD⟩ : ∃ S, D.write a.f a.at_ a.s = S := ⟨_, rfl⟩
    rw [hE, hD] at TP TR
    rw [hD]
    clear hE hD
    go_enter Try.func10, Try.ntmps10
    go_upto_region 1 with fail
    generalize w.alloc (.cells a.arr 31) = W at *
    obtain ⟨x0, x1, x2, x3, x4, x6⟩ := HBX.out.arr
    have xz := HBX.out.lt
    rw [k2] at x0
    clear k2
    go_wp2_with fail
    go_region_held3 (fun w' => w'.cell? ⟨w.heap.size, 1, none⟩ = some (.int .i64 a.f) ∧ w'.cell? ⟨w.heap.size, 2, none⟩ = some (.int .i64 a.at_) ∧ w'.cell? ⟨w.heap.size, 4, none⟩ = some (.string a.s)) (first | exact ⟨y1, y2, y4⟩ | go_keep)
      (first | (go_at_call 51; (with_reducible refine (TP.out _ _ (H0.out.step (Below.refl _ _).drew).p).mono ?_); rintro e w2 ⟨rfl, b2, hd2, ht2⟩; have H1 := Lib.hid ((H0.out.step (Below.refl _ _).drew).dp hd2 ht2); have HX1 := Lib.hid (HBX.out.drew.turn ht2 NB.out.1); obtain ⟨y0, y1, y2, y3, y4, y6⟩ := HX1.out.arr) | (go_at_call 52; (with_reducible refine (TR.out _ _ H1.out.q).mono ?_); rintro e w3 ⟨rfl, c3, hd3, ht3⟩; have H2 := Lib.hid (H1.out.rp hd3 ht3); have HX2 := Lib.hid (HX1.out.turn ht3 NB.out.2); obtain ⟨y0, y1, y2, y3, y4, y6⟩ := HX2.out.arr) | (go_at_call 27; refine (law_numS _ _).mono ?_; rintro e w1 ⟨rfl, rfl⟩))
    go_wp2_with fail
    go_ret
    exact ⟨rfl, _, _, H2.out⟩
  by_cases k3 : a.kind = 3
  ·
    have ES := Lib.hid (show stepD D a = D.cutD a.f a.at_ by unfold stepD; rw [k3]; rfl)
    rw [ES.out]
    have TP := Lib.hid (fun b1 w1 (h1 : DP w1 b1 g D) => disk_Cut g D b1 a.f a.at_ w1 h1 OK.out (by omega) (by omega))
    have TR := Lib.hid (fun c1 w1 (h1 : RP w1 c1 r D) => refd_Cut r D c1 a.f a.at_ w1 h1 OK.out (by omega) (by omega))
    obtain ⟨E, hE⟩ : ∃ S, D.cutE a.f a.at_ = S := ⟨_, rfl⟩
    obtain ⟨D', hD⟩ : ∃ S, D.cutD a.f a.at_ = S := ⟨_, rfl⟩
    rw [hE, hD] at TP TR
    rw [hD]
    clear hE hD
    go_enter Try.func10, Try.ntmps10
    go_upto_region 1 with fail
    generalize w.alloc (.cells a.arr 31) = W at *
    obtain ⟨x0, x1, x2, x3, x4, x6⟩ := HBX.out.arr
    have xz := HBX.out.lt
    rw [k3] at x0
    clear k3
    go_wp2_with fail
    go_region_held3 (fun w' => w'.cell? ⟨w.heap.size, 1, none⟩ = some (.int .i64 a.f) ∧ w'.cell? ⟨w.heap.size, 2, none⟩ = some (.int .i64 a.at_)) (first | exact ⟨y1, y2⟩ | go_keep)
      (first | (go_at_call 53; (with_reducible refine (TP.out _ _ (H0.out.step (Below.refl _ _).drew).p).mono ?_); rintro e w2 ⟨rfl, b2, hd2, ht2⟩; have H1 := Lib.hid ((H0.out.step (Below.refl _ _).drew).dp hd2 ht2); have HX1 := Lib.hid (HBX.out.drew.turn ht2 NB.out.1); obtain ⟨y0, y1, y2, y3, y4, y6⟩ := HX1.out.arr) | (go_at_call 54; (with_reducible refine (TR.out _ _ H1.out.q).mono ?_); rintro e w3 ⟨rfl, c3, hd3, ht3⟩; have H2 := Lib.hid (H1.out.rp hd3 ht3); have HX2 := Lib.hid (HX1.out.turn ht3 NB.out.2); obtain ⟨y0, y1, y2, y3, y4, y6⟩ := HX2.out.arr) | (go_at_call 27; refine (law_numS _ _).mono ?_; rintro e w1 ⟨rfl, rfl⟩))
    go_wp2_with fail
    go_ret
    exact ⟨rfl, _, _, H2.out⟩
  by_cases k5 : a.kind = 5
  ·
    have ES := Lib.hid (show stepD D a = D.sync a.f by unfold stepD; rw [k5]; rfl)
    rw [ES.out]
    have TP := Lib.hid (fun b1 w1 (h1 : DP w1 b1 g D) => disk_Sync g D b1 a.f w1 h1 OK.out (by omega) (by omega))
    have TR := Lib.hid (fun c1 w1 (h1 : RP w1 c1 r D) => refd_Sync r D c1 a.f w1 h1 OK.out (by omega) (by omega))
    obtain ⟨E, hE⟩ : ∃ S, D.syncE a.f = S := ⟨_, rfl⟩
    obtain ⟨D', hD⟩ : ∃ S, D.sync a.f = S := ⟨_, rfl⟩
    rw [hE, hD] at TP TR
    rw [hD]
    clear hE hD
    go_enter Try.func10, Try.ntmps10
    go_upto_region 1 with fail
    generalize w.alloc (.cells a.arr 31) = W at *
    obtain ⟨x0, x1, x2, x3, x4, x6⟩ := HBX.out.arr
    have xz := HBX.out.lt
    rw [k5] at x0
    clear k5
    go_wp2_with fail
    go_region_held3 (fun w' => w'.cell? ⟨w.heap.size, 1, none⟩ = some (.int .i64 a.f)) (first | exact ⟨y1⟩ | go_keep)
      (first | (go_at_call 57; (with_reducible refine (TP.out _ _ (H0.out.step (Below.refl _ _).drew).p).mono ?_); rintro e w2 ⟨rfl, b2, hd2, ht2⟩; have H1 := Lib.hid ((H0.out.step (Below.refl _ _).drew).dp hd2 ht2); have HX1 := Lib.hid (HBX.out.drew.turn ht2 NB.out.1); obtain ⟨y0, y1, y2, y3, y4, y6⟩ := HX1.out.arr) | (go_at_call 58; (with_reducible refine (TR.out _ _ H1.out.q).mono ?_); rintro e w3 ⟨rfl, c3, hd3, ht3⟩; have H2 := Lib.hid (H1.out.rp hd3 ht3); have HX2 := Lib.hid (HX1.out.turn ht3 NB.out.2); obtain ⟨y0, y1, y2, y3, y4, y6⟩ := HX2.out.arr) | (go_at_call 27; refine (law_numS _ _).mono ?_; rintro e w1 ⟨rfl, rfl⟩))
    go_wp2_with fail
    go_ret
    exact ⟨rfl, _, _, H2.out⟩
  by_cases k6 : a.kind = 6
  ·
    have ES := Lib.hid (show stepD D a = D.fail a.n by unfold stepD; rw [k6]; rfl)
    rw [ES.out]
    have TP := Lib.hid (fun b1 w1 (h1 : DP w1 b1 g D) => disk_Fail g D b1 a.n w1 h1)
    have TR := Lib.hid (fun c1 w1 (h1 : RP w1 c1 r D) => refd_Fail r D c1 a.n w1 h1)
    obtain ⟨D', hD⟩ : ∃ S, D.fail a.n = S := ⟨_, rfl⟩
    rw [hD] at TP TR
    rw [hD]
    clear hD
    go_enter Try.func10, Try.ntmps10
    go_upto_region 1 with fail
    generalize w.alloc (.cells a.arr 31) = W at *
    obtain ⟨x0, x1, x2, x3, x4, x6⟩ := HBX.out.arr
    have xz := HBX.out.lt
    rw [k6] at x0
    clear k6
    go_wp2_with (first | (go_at_call 13; (with_reducible refine (TP.out _ _ H0.out.p).mono ?_); rintro e w2 ⟨rfl, b2, hd2, ht2⟩; have H1 := Lib.hid (H0.out.dp hd2 ht2); have HX1 := Lib.hid (HBX.out.turn ht2 NB.out.1); obtain ⟨y0, y1, y2, y3, y4, y6⟩ := HX1.out.arr; have yz := HX1.out.lt) | (go_at_call 35; (with_reducible refine (TR.out _ _ H1.out.q).mono ?_); rintro e w3 ⟨rfl, c3, hd3, ht3⟩; have H2 := Lib.hid (H1.out.rp hd3 ht3)))
    clear H1 HX1 y0 y1 y2 y3 y4 y6 yz x0 x1 x2 x3 x4 x6 xz TP TR
    have P := Lib.hid H2.out.p
    obtain ⟨q4, q5, ⟨Aq, cq, q2⟩, qz⟩ := H2.out.q.cells
    have TD := Lib.hid (fun b1 w1 (h1 : DP w1 b1 g D') => disk_Down g D' b1 w1 h1)
    have TC := Lib.hid (fun b1 w1 (h1 : DP w1 b1 g D') => disk_Count g D' b1 w1 h1)
    have TW := Lib.hid (fun b1 w1 (h1 : DP w1 b1 g D') => disk_Waits g D' b1 w1 h1)
    obtain ⟨dn, hdn⟩ : ∃ x, (D').down = x := ⟨_, rfl⟩
    obtain ⟨ct, hcq⟩ : ∃ x, (D').count = x := ⟨_, rfl⟩
    obtain ⟨wl, hwl⟩ : ∃ x, (D').waits.length = x := ⟨_, rfl⟩
    rw [hdn] at q4 TD
    rw [hcq] at q5 TC
    rw [hwl] at q2 TW
    have s2 : (dn == dn) = true := by simp
    clear hdn hcq hwl
    refine wp_region_cls (w3) (by kernel_rfl) (by kernel_rfl) (Cls.start _) ?_
    repeat
      first
        | go_big_quiet_skip
        | (go_big_quiet_want; (first | go_big_quiet_op | go_simp); first | go_big_quiet_on | (apply Exists.intro; refine ⟨fun w' hw' => ?_, ?_⟩; (· (first | (with_reducible exact rfl) | (first | (go_at_call 22; (with_reducible refine (TD.out _ _ (P.out.below hw'.bel)).mono ?_); rintro e w9 ⟨rfl, rfl⟩; exact ⟨rfl, hw'⟩) | (go_at_call 60; (with_reducible refine (TC.out _ _ (P.out.below hw'.bel)).mono ?_); rintro e w9 ⟨rfl, rfl⟩; exact ⟨rfl, hw'⟩) | (go_at_call 61; (with_reducible refine (TW.out _ _ (P.out.below hw'.bel)).mono ?_); rintro e w9 ⟨rfl, rfl⟩; exact ⟨rfl, hw'⟩)) | (obtain ⟨hc, hf⟩ := hw'.facts; go_simp; first | done | (with_reducible exact rfl) | (with_reducible exact ⟨rfl, rfl⟩)))); go_big_quiet_on))
    refine wpQuiet_nil ?_
    intro wq hq
    have HQ := Lib.hid hq
    clear hq
    go_wp2_with fail
    go_ret
    exact ⟨rfl, _, _, H2.out.step HQ.out⟩
  by_cases k7 : a.kind = 7
  ·
    have ES := Lib.hid (show stepD D a = D.crash a.ks by unfold stepD; rw [k7]; rfl)
    rw [ES.out]
    obtain ⟨i0, hi, hz0, hz1, hz2⟩ := info_parts infoInt
    have TP := Lib.hid (fun A n c b1 w1 (h1 : DP w1 b1 g D) hK hn hA => disk_Crash g D b1 A n c a.ks w1 h1 OK.out (by omega) hK hn hA)
    have TR := Lib.hid (fun A n c c1 w1 (h1 : RP w1 c1 r D) hK hn hA => refd_Crash r D c1 A n c a.ks w1 h1 OK.out (by omega) hK hn hA)
    have TI := Lib.hid (fun A A' n c c' w1 h1 h2 hn => law_sameInts A A' n c c' a.ks w1 h1 h2 hn)
    obtain ⟨D', hD⟩ : ∃ S, D.crash a.ks = S := ⟨_, rfl⟩
    rw [hD] at TP TR
    rw [hD]
    clear hD
    have KN := Lib.hid (show a.kn ≤ 9223372036854775807 by have := AO.out.len; omega)
    have G1 := Lib.hid (show 0 + a.kn ≤ maxLen by have := AO.out.len; unfold maxLen; omega)
    have G2 := Lib.hid (show (0 + a.kn) * 8 ≤ 140737488355328 by rw [Nat.zero_add]; exact AO.out.len)
    go_enter Try.func10, Try.ntmps10
    go_upto_region 1 with fail
    generalize w.alloc (.cells a.arr 31) = W at *
    obtain ⟨x0, x1, x2, x3, x4, x6⟩ := HBX.out.arr
    have xz := HBX.out.lt
    rw [k7] at x0
    clear k7
    have BW := Lib.hid H0.out.bel
    go_upto_region 21 with (at_builtin; (refine wpList_append_src _ rfl (.const (.slice none 0 0)) (.tmp 137) 28 28 rfl W.heap.size 3 i0 _ 1 8 Try.underlying28 hi hz0 hz1 hz2 zeroCellsInt (by decide) (.slice none 0 0) 0 [] rfl (World.ownsRow_nil _ _ _ _) (.slice a.kA a.kn a.kc) a.kn (intVs a.ks) rfl (AO.out.keep.src Try.underlying28) G1.out G2.out (Nat.le_refl _) ?_); intro vv w5 hown1 hg1 _ hat1; rw [Nat.zero_add] at hown1; obtain ⟨AK, kc2, rfl, _, hIS, hblk⟩ := IS.of_own (ks := a.ks) hown1; have HOK := Lib.hid (fun k (hk : blkOf AK = some k) => (hown1.lt k (hblk ▸ hk)).1); have HIS := Lib.hid hIS; have B5 := Lib.hid ((Below.refl W.heap.size W).grown hg1 (Nat.le_refl _) (fun k h => by cases h)); clear hown1 hg1 hat1 hblk hIS)
    have H5 := Lib.hid (H0.out.step B5.out)
    have HX5 := Lib.hid (HBX.out.belowS B5.out)
    have AO5 := Lib.hid (AO.out.keep.keep B5.out)
    have NK := Lib.hid (show 0 < a.kn → ∀ k, blkOf AK = some k → some k ∉ b from fun _ k hk h2 => by have := HOK.out k hk; have := H0.out.p.lt h2; omega)
    have NKc := Lib.hid (show 0 < a.kn → ∀ k, blkOf AK = some k → some k ∉ c from fun _ k hk h2 => by have := HOK.out k hk; have := H0.out.q.lt h2; omega)
    have NA := Lib.hid (show 0 < a.kn → ∀ k, blkOf a.kA = some k → some k ∉ b from fun h0 k hk h2 => by have := GL.out h0 k hk; have := H0.out.lowb k h2; omega)
    have NAc := Lib.hid (show 0 < a.kn → ∀ k, blkOf a.kA = some k → some k ∉ c from fun h0 k hk h2 => by have := GL.out h0 k hk; have := H0.out.lowc k h2; omega)
    clear x0 x1 x2 x3 x4 x6 xz
    go_wp2_with (first | (go_at_call 23; (with_reducible refine (TP.out AK a.kn _ _ _ H5.out.p HIS.out KN.out NK.out).mono ?_); rintro e w6 ⟨rfl, b6, hd6, ht6⟩; have H6 := Lib.hid (H5.out.dp hd6 ht6); have HX6 := Lib.hid (HX5.out.turn ht6 NB.out.1); have AO6 := Lib.hid (AO5.out.turn ht6 NA.out); have IS6 := Lib.hid (HIS.out.turn ht6 NK.out); obtain ⟨y0, y1, y2, y3, y4, y6⟩ := HX6.out.arr; have yz := HX6.out.lt; clear hd6 ht6) | (go_at_call 36; (with_reducible refine (TR.out a.kA a.kn _ _ _ H6.out.q AO6.out KN.out NAc.out).mono ?_); rintro e w7 ⟨rfl, c7, hd7, ht7⟩; have H7 := Lib.hid (H6.out.rp hd7 ht7); have HX7 := Lib.hid (HX6.out.turn ht7 NB.out.2); have AO7 := Lib.hid (AO6.out.turn ht7 NAc.out); have IS7 := Lib.hid (IS6.out.turn ht7 NKc.out); clear y0 y1 y2 y3 y4 y6 yz; obtain ⟨y0, y1, y2, y3, y4, y6⟩ := HX7.out.arr; have yz := HX7.out.lt; clear hd7 ht7) | (go_at_call 59; (with_reducible refine (TI.out AK a.kA a.kn _ _ _ IS7.out AO7.out KN.out).mono ?_); rintro e w8 ⟨rfl, hb8⟩; have H8 := Lib.hid (H7.out.step hb8); clear hb8 y0 y1 y2 y3 y4 y6 yz))
    clear TP TR TI
    have P := Lib.hid H8.out.p
    obtain ⟨q4, q5, ⟨Aq, cq, q2⟩, qz⟩ := H8.out.q.cells
    have TD := Lib.hid (fun b1 w1 (h1 : DP w1 b1 g D') => disk_Down g D' b1 w1 h1)
    have TC := Lib.hid (fun b1 w1 (h1 : DP w1 b1 g D') => disk_Count g D' b1 w1 h1)
    have TW := Lib.hid (fun b1 w1 (h1 : DP w1 b1 g D') => disk_Waits g D' b1 w1 h1)
    obtain ⟨dn, hdn⟩ : ∃ x, (D').down = x := ⟨_, rfl⟩
    obtain ⟨ct, hcq⟩ : ∃ x, (D').count = x := ⟨_, rfl⟩
    obtain ⟨wl, hwl⟩ : ∃ x, (D').waits.length = x := ⟨_, rfl⟩
    rw [hdn] at q4 TD
    rw [hcq] at q5 TC
    rw [hwl] at q2 TW
    have s2 : (dn == dn) = true := by simp
    clear hdn hcq hwl
    refine wp_region_cls (w8) (by kernel_rfl) (by kernel_rfl) (Cls.start _) ?_
    repeat
      first
        | go_big_quiet_skip
        | (go_big_quiet_want; (first | go_big_quiet_op | go_simp); first | go_big_quiet_on | (apply Exists.intro; refine ⟨fun w' hw' => ?_, ?_⟩; (· (first | (with_reducible exact rfl) | (first | (go_at_call 22; (with_reducible refine (TD.out _ _ (P.out.below hw'.bel)).mono ?_); rintro e w9 ⟨rfl, rfl⟩; exact ⟨rfl, hw'⟩) | (go_at_call 60; (with_reducible refine (TC.out _ _ (P.out.below hw'.bel)).mono ?_); rintro e w9 ⟨rfl, rfl⟩; exact ⟨rfl, hw'⟩) | (go_at_call 61; (with_reducible refine (TW.out _ _ (P.out.below hw'.bel)).mono ?_); rintro e w9 ⟨rfl, rfl⟩; exact ⟨rfl, hw'⟩)) | (obtain ⟨hc, hf⟩ := hw'.facts; go_simp; first | done | (with_reducible exact rfl) | (with_reducible exact ⟨rfl, rfl⟩)))); go_big_quiet_on))
    refine wpQuiet_nil ?_
    intro wq hq
    have HQ := Lib.hid hq
    clear hq
    go_wp2_with fail
    go_ret
    exact ⟨rfl, _, _, H8.out.step HQ.out⟩
  have ES := Lib.hid (show stepD D a = D by unfold stepD; rw [if_neg k2, if_neg k3, if_neg k5, if_neg k6, if_neg k7])
  rw [ES.out]
  go_enter Try.func10, Try.ntmps10
  go_upto_region 1 with fail
  generalize w.alloc (.cells a.arr 31) = W at *
  obtain ⟨x0, x1, x2, x3, x4, x6⟩ := HBX.out.arr
  have xz := HBX.out.lt
  obtain ⟨k, hk⟩ : ∃ k, a.kind = k := ⟨_, rfl⟩
  rw [hk] at x0 k1 k2 k3 k4 k5 k6 k7
  have e1 : (k == 1) = false := beq_eq_false_iff_ne.2 k1
  have e2 : (k == 2) = false := beq_eq_false_iff_ne.2 k2
  have e3 : (k == 3) = false := beq_eq_false_iff_ne.2 k3
  have e4 : (k == 4) = false := beq_eq_false_iff_ne.2 k4
  have e5 : (k == 5) = false := beq_eq_false_iff_ne.2 k5
  have e6 : (k == 6) = false := beq_eq_false_iff_ne.2 k6
  have e7 : (k == 7) = false := beq_eq_false_iff_ne.2 k7
  clear k1 k2 k3 k4 k5 k6 k7 hk
  go_wp2_with fail
  clear x0 x1 x2 x3 x4 x6 xz e1 e2 e3 e4 e5 e6 e7
  have P := Lib.hid H0.out.p
  obtain ⟨q4, q5, ⟨Aq, cq, q2⟩, qz⟩ := H0.out.q.cells
  have TD := Lib.hid (fun b1 w1 (h1 : DP w1 b1 g D) => disk_Down g D b1 w1 h1)
  have TC := Lib.hid (fun b1 w1 (h1 : DP w1 b1 g D) => disk_Count g D b1 w1 h1)
  have TW := Lib.hid (fun b1 w1 (h1 : DP w1 b1 g D) => disk_Waits g D b1 w1 h1)
  obtain ⟨dn, hdn⟩ : ∃ x, (D).down = x := ⟨_, rfl⟩
  obtain ⟨ct, hcq⟩ : ∃ x, (D).count = x := ⟨_, rfl⟩
  obtain ⟨wl, hwl⟩ : ∃ x, (D).waits.length = x := ⟨_, rfl⟩
  rw [hdn] at q4 TD
  rw [hcq] at q5 TC
  rw [hwl] at q2 TW
  have s2 : (dn == dn) = true := by simp
  clear hdn hcq hwl
  refine wp_region_cls (W) (by kernel_rfl) (by kernel_rfl) (Cls.start _) ?_
  repeat
    first
      | go_big_quiet_skip
      | (go_big_quiet_want; (first | go_big_quiet_op | go_simp); first | go_big_quiet_on | (apply Exists.intro; refine ⟨fun w' hw' => ?_, ?_⟩; (· (first | (with_reducible exact rfl) | (first | (go_at_call 22; (with_reducible refine (TD.out _ _ (P.out.below hw'.bel)).mono ?_); rintro e w9 ⟨rfl, rfl⟩; exact ⟨rfl, hw'⟩) | (go_at_call 60; (with_reducible refine (TC.out _ _ (P.out.below hw'.bel)).mono ?_); rintro e w9 ⟨rfl, rfl⟩; exact ⟨rfl, hw'⟩) | (go_at_call 61; (with_reducible refine (TW.out _ _ (P.out.below hw'.bel)).mono ?_); rintro e w9 ⟨rfl, rfl⟩; exact ⟨rfl, hw'⟩)) | (obtain ⟨hc, hf⟩ := hw'.facts; go_simp; first | done | (with_reducible exact rfl) | (with_reducible exact ⟨rfl, rfl⟩)))); go_big_quiet_on))
  refine wpQuiet_nil ?_
  intro wq hq
  have HQ := Lib.hid hq
  clear hq
  go_wp2_with fail
  go_ret
  exact ⟨rfl, _, _, H0.out.step HQ.out⟩

end Go.Proofs.Ytjihboddejaelaa
