/-
  tell of package wal.
-/
import Derived.Test.YtjihboddejaelaaLog7
namespace Go.Proofs.Ytjihboddejaelaa
open Go.RowKit
open Go.BigFrame
open Go.Maps
set_option linter.unusedVariables false
set_option linter.unusedSimpArgs false

def Rw.tellD (R : Rw) (f p : Nat) : Dk := R.D.write 1 (16 + 24 * (1 - R.slot) : Nat) (bsOf (slotL (R.number % 3 + 1) f p))
def Rw.tellW (R : Rw) (f p : Nat) : Int := R.D.writeE 1 (16 + 24 * (1 - R.slot) : Nat) (bsOf (slotL (R.number % 3 + 1) f p))
def Rw.tell (R : Rw) (f p : Nat) : Rw :=
  if R.tellW f p ≠ 0 then { R with D := R.tellD f p }
  else if (R.tellD f p).syncE 1 ≠ 0 then { R with D := (R.tellD f p).sync 1 }
  else { R with D := (R.tellD f p).sync 1, slot := 1 - R.slot, number := R.number % 3 + 1 }
def Rw.tellE (R : Rw) (f p : Nat) : Int := if R.tellW f p ≠ 0 then R.tellW f p else (R.tellD f p).syncE 1
def tellR (R : Rw) (f p : Nat) : Nat → Rw
  | 0 => R
  | 1 => { R with D := R.tellD f p }
  | _ => { R with D := (R.tellD f p).sync 1 }
def tellEs (R : Rw) (f p : Nat) : Nat → Int
  | 0 => R.tellW f p
  | _ => (R.tellD f p).syncE 1
theorem tell_up (R : Rw) (f p : Nat) : (upTo (tellEs R f p) 2).2 = R.tellE f p := by
  unfold Rw.tellE
  by_cases h : R.tellW f p = 0
  · rw [if_neg (by simpa using h)]
    have e : upTo (tellEs R f p) 1 = (1, 0) := by rw [upTo_next rfl]; show (0 + 1, R.tellW f p) = _; rw [h]
    rw [upTo_next e]; rfl
  · rw [if_pos h]
    have e : upTo (tellEs R f p) 1 = (1, R.tellW f p) := upTo_next rfl
    rw [upTo_stop (i := 1) (by rw [e]; exact h) (by omega), e]
theorem tell_bad (R : Rw) (f p : Nat) (hx : R.tellE f p ≠ 0) : R.tell f p = tellR R f p (upTo (tellEs R f p) 2).1 := by
  unfold Rw.tellE at hx
  unfold Rw.tell
  by_cases h : R.tellW f p = 0
  · rw [if_neg (by simpa using h)] at hx ⊢
    have e : upTo (tellEs R f p) 1 = (1, 0) := by rw [upTo_next rfl]; show (0 + 1, R.tellW f p) = _; rw [h]
    rw [upTo_next e, if_pos hx]; rfl
  · rw [if_pos h]
    have e : upTo (tellEs R f p) 1 = (1, R.tellW f p) := upTo_next rfl
    rw [upTo_stop (i := 1) (by rw [e]; exact h) (by omega), e]; rfl
theorem tell_good (R : Rw) (f p : Nat) (hx : R.tellE f p = 0) : R.tell f p = { tellR R f p 2 with slot := 1 - R.slot, number := R.number % 3 + 1 } ∧ (upTo (tellEs R f p) 2).1 = 2 := by
  unfold Rw.tellE at hx
  unfold Rw.tell
  by_cases h : R.tellW f p = 0
  · rw [if_neg (by simpa using h)] at hx ⊢
    have e : upTo (tellEs R f p) 1 = (1, 0) := by rw [upTo_next rfl]; show (0 + 1, R.tellW f p) = _; rw [h]
    rw [upTo_next e, if_neg (by simpa using hx)]; exact ⟨rfl, rfl⟩
  · rw [if_pos h] at hx; exact absurd hx h
theorem enter_tell1 (cs : Array Value) (u : World) : (callFunc 108 cs).run Try.prog u = .ok (.enter 108 cs) u := by kernel_rfl
theorem enter_tell2 (cs : Array Value) (u : World) : (callFunc 109 cs).run Try.prog u = .ok (.enter 109 cs) u := by kernel_rfl
def tellFs (N bs bn : Nat) : List (FuncId × Array Value) := [(108, #[.pointer (some ⟨N, 0, none⟩), .pointer (some ⟨bs, 0, none⟩), .pointer (some ⟨bn, 0, none⟩), .pointer (some ⟨N + 1, 0, none⟩), .pointer (some ⟨N + 1 + 1, 0, none⟩)]), (109, #[.pointer (some ⟨N, 0, none⟩)])]
def tellXs (gs N bs bn g slot n f p : Nat) : List (Nat × TypeId × Array Value) :=
  [(gs, 50, ((tellFs N bs bn).map (fun x => Value.func (.func x.1) #[] x.2)).toArray), (N, 36, #[.pointer (some ⟨g, 0, none⟩)]), (bs, 3, #[.int .i64 slot]), (bn, 3, #[.int .i64 n]), (N + 1, 3, #[.int .i64 f]), (N + 1 + 1, 3, #[.int .i64 p])]
theorem tellBox_of {u : World} {gs N bs bn g slot n f p : Nat} (h : Boxes u (tellXs gs N bs bn g slot n f p)) : TellBox u g N bs bn (N + 1) (N + 1 + 1) slot n f p :=
  ⟨h (N, _, _) (by simp [tellXs]), h (bs, _, _) (by simp [tellXs]), h (bn, _, _) (by simp [tellXs]), h (N + 1, _, _) (by simp [tellXs]), h (N + 1 + 1, _, _) (by simp [tellXs])⟩
theorem boxOff_of {gs N bs bn g slot n f p : Nat} {b c : List (Option Nat)} (h : Off (tellXs gs N bs bn g slot n f p) (b ++ c)) : boxOff N bs bn (N + 1) (N + 1 + 1) b :=
  ⟨fun h2 => h (N, 36, #[.pointer (some ⟨g, 0, none⟩)]) (by simp [tellXs]) (List.mem_append_left _ h2), fun h2 => h (bs, 3, #[.int .i64 slot]) (by simp [tellXs]) (List.mem_append_left _ h2), fun h2 => h (bn, 3, #[.int .i64 n]) (by simp [tellXs]) (List.mem_append_left _ h2), fun h2 => h (N + 1, 3, #[.int .i64 f]) (by simp [tellXs]) (List.mem_append_left _ h2), fun h2 => h (N + 1 + 1, 3, #[.int .i64 p]) (by simp [tellXs]) (List.mem_append_left _ h2)⟩
theorem Fit.less {D : Dk} {k m : Nat} (h : Fit D k) (hm : m ≤ k) : Fit D m := ⟨h.ok, by have := h.count; omega, by have := h.waits; omega⟩
theorem turn_count (D : Dk) : D.turn.count ≤ D.count + 1 := by unfold Dk.turn; split <;> simp
theorem change_fit {D : Dk} {k : Nat} (h : Fit D (k + 1)) {c : Ch} (hc : c.fits) : Fit (D.change c) k := by
  refine ⟨Dk.change_ok h.ok hc, ?_, ?_⟩
  · have := h.count; have := turn_count D
    unfold Dk.change; split
    · omega
    · show D.turn.count + k ≤ _; omega
  · have := h.waits
    unfold Dk.change; split
    · have : D.turn.waits = D.waits := by unfold Dk.turn; split <;> rfl
      rw [this]; omega
    · show (D.waits ++ [c]).length + k ≤ _; rw [List.length_append]; simp; omega
theorem Fit.write {D : Dk} {k : Nat} (h : Fit D (k + 1)) (f a : Int) (s : ByteArray) : Fit (D.write f a s) k := by
  unfold Dk.write
  split
  · rename_i hf
    obtain ⟨h1, h2, h3, h4, h5, h6⟩ := hf
    exact change_fit h ⟨by show f.toNat < 2; omega, by show a.toNat ≤ _; omega, by show a.toNat + s.size ≤ _; omega, fun h => by cases h⟩
  · exact h.less (by omega)

theorem wal_tellChain (b : List (Option Nat)) (gd g m1 m2 : Nat) (R : Rw) (f p gs bs bn : Nat) (w wc : World) (h : LR w b gd g m1 m2 R) (hfit : Fit R.D 2) (hs : R.slot < 2) (hnum : R.number < 4) (hf : f ≤ 4611686018427387904) (hp : p ≤ 4611686018427387904)
    (hb : Below w.heap.size w wc) (hx : Boxes wc (tellXs gs w.heap.size bs bn g (1 - R.slot) (R.number % 3 + 1) f p)) (hbs : w.heap.size ≤ bs) (hbn : w.heap.size ≤ bn) (hgs : w.heap.size ≤ gs) :
    Calls Try.prog 68 #[.slice (some ⟨gs, 0, none⟩) 2 2] wc fun e w' => e = .returned (.int .i64 (R.tellE f p)) ∧ Held w b gd g m1 m2 (tellXs gs w.heap.size bs bn g (1 - R.slot) (R.number % 3 + 1) f p) (tellR R f p (upTo (tellEs R f p) 2).1) w' := by
  rw [← tell_up]
  refine wal_chain (tellFs w.heap.size bs bn) gs 2 w b gd g m1 m2 _ (tellR R f p) (tellEs R f p) 50 wc rfl (by omega) (by simp [tellXs]) ⟨b, h.below hb, hx, ?_, Turn.below _ hb⟩ ?_ ?_
  · intro x hx2 h2
    have h3 := h.lt h2
    simp only [tellXs, List.mem_cons, List.not_mem_nil, or_false] at hx2
    rcases hx2 with rfl | rfl | rfl | rfl | rfl | rfl <;> simp only at h3 <;> omega
  · intro i k cs hi u
    match i, hi with
    | 0, hi => cases hi; exact enter_tell1 _ _
    | 1, hi => cases hi; exact enter_tell2 _ _
  · intro i k cs hi u b' hl hx2 ho hu
    match i, hi with
    | 0, hi =>
      cases hi
      exact (wal_tell1 b' gd g m1 m2 R _ bs bn _ _ (1 - R.slot) (R.number % 3 + 1) f p u hl (tellBox_of hx2) (boxOff_of ho) (hfit.less (by omega)) (by omega) (by omega) hf hp).mono fun e w' hp => LinkPost.ofDisk hl hp
    | 1, hi =>
      cases hi
      exact (wal_tell2 b' gd g m1 m2 _ _ u hl (tellBox_of hx2).l ((show Fit (R.D.write 1 (16 + 24 * (1 - R.slot) : Nat) (bsOf (slotL (R.number % 3 + 1) f p))) 1 from hfit.write _ _ _))).mono fun e w' hp => LinkPost.ofDisk (R := tellR R f p 1) hl hp

set_option maxRecDepth 100000 in
set_option maxHeartbeats 3200000 in
theorem wal_tell (b : List (Option Nat)) (gd g m1 m2 : Nat) (R : Rw) (f p : Nat) (w : World) (h : LR w b gd g m1 m2 R) (hfit : Fit R.D 2) (hs : R.slot < 2) (hnum : R.number < 4) (hf : f ≤ 4611686018427387904) (hp : p ≤ 4611686018427387904) :
    Calls Try.prog 72 #[.pointer (some ⟨g, 0, none⟩), .int .i64 f, .int .i64 p] w (LinkPost w b gd g m1 m2 (R.tell f p) (R.tellE f p)) := by
  obtain ⟨E, hE⟩ : ∃ E, R.tellE f p = E := ⟨_, rfl⟩
  rw [hE]
  have EE := Lib.hid hE
  clear hE
  have HL := Lib.hid h
  have HF := Lib.hid hfit
  have W3 := Lib.hid (show Has (((w.alloc (.cells #[.pointer (some ⟨g, 0, none⟩)] 36)).alloc (.cells #[.int .i64 f] 3)).alloc (.cells #[.int .i64 p] 3)) w.heap.size 36 #[.pointer (some ⟨g, 0, none⟩)] ∧
      Has (((w.alloc (.cells #[.pointer (some ⟨g, 0, none⟩)] 36)).alloc (.cells #[.int .i64 f] 3)).alloc (.cells #[.int .i64 p] 3)) (w.heap.size + 1) 3 #[.int .i64 f] ∧
      Has (((w.alloc (.cells #[.pointer (some ⟨g, 0, none⟩)] 36)).alloc (.cells #[.int .i64 f] 3)).alloc (.cells #[.int .i64 p] 3)) (w.heap.size + 2) 3 #[.int .i64 p] ∧
      Below w.heap.size w (((w.alloc (.cells #[.pointer (some ⟨g, 0, none⟩)] 36)).alloc (.cells #[.int .i64 f] 3)).alloc (.cells #[.int .i64 p] 3)) ∧
      (((w.alloc (.cells #[.pointer (some ⟨g, 0, none⟩)] 36)).alloc (.cells #[.int .i64 f] 3)).alloc (.cells #[.int .i64 p] 3)).heap.size = w.heap.size + 3 by
    have a1 := Has.new w 36 #[.pointer (some ⟨g, 0, none⟩)]
    have a2 := Has.new (w.alloc (.cells #[.pointer (some ⟨g, 0, none⟩)] 36)) 3 #[.int .i64 f]
    have a3 := Has.new ((w.alloc (.cells #[.pointer (some ⟨g, 0, none⟩)] 36)).alloc (.cells #[.int .i64 f] 3)) 3 #[.int .i64 p]
    rw [World.size_alloc] at a2
    rw [World.size_alloc, World.size_alloc] at a3
    exact ⟨(a1.alloc _).alloc _, a2.alloc _, a3, (((Below.refl _ _).alloc (Nat.le_refl _) _).alloc (by simp) _).alloc (by simp; omega) _, by simp⟩)
  clear h hfit
  go_enter Try.func72, Try.ntmps72
  go_upto_region 1 with fail
  generalize ((w.alloc (.cells #[.pointer (some ⟨g, 0, none⟩)] 36)).alloc (.cells #[.int .i64 f] 3)).alloc (.cells #[.int .i64 p] 3) = W at *
  obtain ⟨hl, hbf, hbp, hbw, hsz⟩ := W3.out
  have HLL := Lib.hid hl; have HBF := Lib.hid hbf; have HBP := Lib.hid hbp; have HBW := Lib.hid hbw; have HSZ := Lib.hid hsz
  have HLW := Lib.hid (HL.out.below hbw)
  have c7 : W.cell? ⟨g, 7, none⟩ = some (.int .i64 R.slot) := HLW.out.has.cell 7
  have c8 : W.cell? ⟨g, 8, none⟩ = some (.int .i64 R.number) := HLW.out.has.cell 8
  have gz := HLW.out.has.lt
  have cl : W.cell? ⟨w.heap.size, 0, none⟩ = some (.pointer (some ⟨g, 0, none⟩)) := hl.cell 0
  have lz := hl.lt
  clear hl hbf hbp hbw W3 hsz
  go_cut [7, 8] (fun s7 s8 wx => ∃ bs bn, s7 = .pointer (some ⟨bs, 0, none⟩) ∧ s8 = .pointer (some ⟨bn, 0, none⟩) ∧ TellBox wx g w.heap.size bs bn (w.heap.size + 1) (w.heap.size + 2) (1 - R.slot) (R.number % 3 + 1) f p ∧ Below W.heap.size W wx ∧ W.heap.size ≤ bs ∧ W.heap.size ≤ bn)
  case first =>
    have N1 := Lib.hid (show ((1 - R.slot : Nat) : Int) = 1 - (R.slot : Int) ∧ ((R.number % 3 + 1 : Nat) : Int) = (R.number : Int) % 3 + 1 from ⟨by omega, by omega⟩)
    have A1 := Lib.hid (fun x y => ((Has.new W 3 #[x]).alloc (.cells #[y] 3)).drew)
    have A2 := Lib.hid (show ∀ x y, Has ((W.alloc (.cells #[x] 3)).alloc (.cells #[y] 3)).drew (W.heap.size + 1) 3 #[y] from fun x y => by
      have := Has.new (W.alloc (.cells #[x] 3)) 3 #[y]
      rw [World.size_alloc] at this
      exact this.drew)
    have AB := Lib.hid (fun x y => (((Below.refl W.heap.size W).alloc (Nat.le_refl _) (.cells #[x] 3)).alloc (by simp) (.cells #[y] 3)).drew)
    go_region
    · go_wp2_with fail
      go_meet
      have hb := AB.out (.int .i64 (1 - R.slot)) (.int .i64 (R.number % 3 + 1))
      refine ⟨_, _, rfl, rfl, ⟨HLL.out.belowS hb, ?_, ?_, HBF.out.belowS hb, HBP.out.belowS hb⟩, hb, Nat.le_refl _, Nat.le_succ _⟩
      · rw [N1.out.1]; exact A1.out _ _
      · rw [N1.out.2]; exact A2.out _ _
    · go_wp2_with fail
      go_meet
      have hb := AB.out (.int .i64 (R.number % 3 + 1)) (.int .i64 (1 - R.slot))
      refine ⟨_, _, rfl, rfl, ⟨HLL.out.belowS hb, ?_, ?_, HBF.out.belowS hb, HBP.out.belowS hb⟩, hb, Nat.le_succ _, Nat.le_refl _⟩
      · rw [N1.out.1]; exact A2.out _ _
      · rw [N1.out.2]; exact A1.out _ _
  case rest =>
    obtain ⟨bs, bn, rfl, rfl, htb, hb, hbs, hbn⟩ := hcut
    have HTB := Lib.hid htb
    have HBC := Lib.hid hb
    clear htb hb c7 c8 gz cl lz
    have hbw := HBW.out.trans (Below.mono HBC.out (by have := HSZ.out; omega))
    have hbg := (hbw.alloc hbw.size (.cells ((tellFs w.heap.size bs bn).map (fun x => Value.func (.func x.1) #[] x.2)).toArray 50))
    have CH := Lib.hid (wal_tellChain b gd g m1 m2 R f p wc.heap.size bs bn w (wc.alloc (.cells ((tellFs w.heap.size bs bn).map (fun x => Value.func (.func x.1) #[] x.2)).toArray 50)) HL.out HF.out hs hnum hf hp hbg (by
      have ht := HTB.out
      intro x hx2
      simp only [tellXs, List.mem_cons, List.not_mem_nil, or_false] at hx2
      rcases hx2 with rfl | rfl | rfl | rfl | rfl | rfl
      · exact Has.new _ _ _
      · exact ht.l.alloc _
      · exact ht.s.alloc _
      · exact ht.n.alloc _
      · exact ht.f.alloc _
      · exact ht.p.alloc _) (by have := HSZ.out; omega) (by have := HSZ.out; omega) hbw.size)
    have TB := Lib.hid (tell_bad R f p)
    have TG := Lib.hid (tell_good R f p)
    rw [EE.out] at CH TB TG
    clear hbw hbg HTB HBC HBW HLL HBF HBP HLW HSZ hbs hbn
    go_wp2_with ((go_at_call 68; refine CH.out.mono ?_); rintro e w2 ⟨rfl, hH⟩; have HH := Lib.hid hH; clear hH)
    · rename_i hE0
      have hE1 : E = 0 := by simpa using hE0
      obtain ⟨tg, up⟩ := TG.out hE1
      have hh := HH.out
      rw [up] at hh
      obtain ⟨b', hl, hx, ho, ht⟩ := hh
      have HL2 := Lib.hid hl
      have HT2 := Lib.hid ht
      have TG2 := Lib.hid tg
      have HE1 := Lib.hid hE1
      obtain ⟨x0, x1, x2, _, _⟩ := (tellBox_of hx).cells
      have y7 : w2.cell? ⟨g, 7, none⟩ = some (.int .i64 R.slot) := hl.has.cell 7
      have y8 : w2.cell? ⟨g, 8, none⟩ = some (.int .i64 R.number) := hl.has.cell 8
      have yf := hl.has.frozen
      have gz := hl.has.lt
      clear TG TB CH HH EE tg up hl hx ho ht hE0 hE1
      go_region
      all_goals
        go_wp2_with fail
        go_ret
        obtain ⟨h3, t3⟩ := HL2.out.set 7 (.int .i64 ((1 - R.slot : Nat) : Int)) { tellR R f p 2 with slot := 1 - R.slot } rfl rfl HL2.out.map1 HL2.out.map2
        obtain ⟨h4, t4⟩ := h3.set 8 (.int .i64 ((R.number % 3 + 1 : Nat) : Int)) { tellR R f p 2 with slot := 1 - R.slot, number := R.number % 3 + 1 } rfl rfl h3.map1 h3.map2
        rw [show ((R.number % 3 + 1 : Nat) : Int) = (R.number : Int) % 3 + 1 by omega] at h4 t4
        rw [TG2.out]
        exact ⟨rfl, b', h4.below (Below.refl _ _).drew, ((HT2.out.trans t3).trans t4).trans (Turn.below _ (Below.refl _ _).drew)⟩
    · rename_i hE0
      have hE1 : E ≠ 0 := by simpa using hE0
      obtain ⟨b', hl, hx, ho, ht⟩ := HH.out
      go_ret
      exact ⟨rfl, b', (TB.out hE1) ▸ hl, ht⟩

end Go.Proofs.Ytjihboddejaelaa
