/-
  The walk of relstorelaw.ValueOrders.
-/
import Derived.Test.YtlkkpgdgnnknpaaOrd1
import Derived.Test.YtlkkpgdgnnknpaaSame0
namespace Go.Proofs.Ytlkkpgdgnnknpaa
open Go.RowKit

set_option maxHeartbeats 3200000 in
theorem law_ValueOrders (k n : Int) (s : ByteArray) (k' n' : Int) (s' : ByteArray) (A A' : Option Addr) (len c len' c' : Nat) (vs vs' : List Val) (w : World)
    (h : VS w A len vs) (h' : VS w A' len' vs') (hn : (len + 2) * 32 ≤ 140737488355328) (hn' : (len' + 2) * 32 ≤ 140737488355328) :
    Calls Try.prog 5 #[.agg #[.int .i64 k, .int .i64 n, .string s], .agg #[.int .i64 k', .int .i64 n', .string s'], .slice A len c, .slice A' len' c'] w fun e w' => e = .returned (.bool true) ∧ Below w.heap.size w w' := by
  have u1 : len + 2 ≤ 9223372036854775807 := by omega
  have u2 : len' + 2 ≤ 9223372036854775807 := by omega
  have u3 : len ≤ 9223372036854775807 := by omega
  have u4 : len' ≤ 9223372036854775807 := by omega
  have U1 := Lib.hid hn; have U2 := Lib.hid hn'
  clear hn hn'
  go_enter Try.func5, Try.ntmps5
  go_wp2_with fail
  have hb0 := (((Below.refl _ w).alloc (Nat.le_refl _) (.cells #[.int .i64 k, .int .i64 n, .string s] 29)).alloc (by simp) (.cells #[.int .i64 k', .int .i64 n', .string s'] 29))
  have hA := (Has.new w 29 #[.int .i64 k, .int .i64 n, .string s]).alloc (.cells #[.int .i64 k', .int .i64 n', .string s'] 29)
  have hB := (Has.new (w.alloc (.cells #[.int .i64 k, .int .i64 n, .string s] 29)) 29 #[.int .i64 k', .int .i64 n', .string s'])
  simp only [World.size_alloc] at hB
  have h0 := h.keep hb0
  have h0' := h'.keep hb0
  generalize (w.alloc (.cells #[.int .i64 k, .int .i64 n, .string s] 29)).alloc (.cells #[.int .i64 k', .int .i64 n', .string s'] 29) = W at *
  refine (law_lent A len c vs W h0 U1.out).mono ?_
  rintro e w1 ⟨g, cap, rfl, hcap, hx, hb1⟩
  go_wp2_with fail
  refine (law_lent A' len' c' vs' w1 (h0'.keep hb1) U2.out).mono ?_
  rintro e w2 ⟨g', cap', rfl, hcap', hx', hb2⟩
  have hA2 := (hA.belowS hb1).belowS hb2
  have hB2 := (hB.belowS hb1).belowS hb2
  have hbel := bel_step (bel_step hb0 hb1 hb0.size) hb2 (bel_step hb0 hb1 hb0.size).size
  have h2 := h0.keep (bel_step hb1 hb2 hb1.size)
  have h2' := (h0'.keep hb1).keep hb2
  have hx2 := hx.keep hb2
  clear hA hB h0 h0' hb1 hb2 hb0 h h' hx
  obtain ⟨c0, c1, c2⟩ := hA2.cells3
  obtain ⟨c3, c4, c5⟩ := hB2.cells3
  have z1 := hA2.lt
  have z2 := hB2.lt
  have i1 : (len : Int) ≤ (cap : Int) := by omega
  have i2 : (len' : Int) ≤ (cap' : Int) := by omega
  obtain ⟨m0, m1, m2⟩ := marks_at h2.1
  obtain ⟨m0', m1', m2'⟩ := marks_at h2'.1
  have ht := hx2.take (k := len) (by omega)
  have ht' := hx'.take (k := len') (by omega)
  rw [m2] at ht
  rw [m2'] at ht'
  clear m0 m1 m2 m0' m1' m2'
  go_wp2_with fail
  refine wp_region_cls (w2) (by kernel_rfl) (by kernel_rfl) (Cls.start _) ?_
  repeat
    refine wpQuiet_step (fun K hK => ?_)
    go_simp
    first
      | (refine hK _ ?_; clear hK K)
      | (apply Exists.intro; refine ⟨fun w' hw' => ?_, hK _ ?_⟩; (· (first | (exact rfl) | (first | (go_at_call 18; refine (value_Rows _ _ _ _ _ _ vs vs' _ (ht.keep hw'.bel) (ht'.keep hw'.bel) u3 u4).mono ?_; rintro e w1 ⟨rfl, hb⟩; exact ⟨rfl, Cls.step hw' hb⟩) | (go_at_call 19; refine (ref_OrderRows _ _ _ _ _ _ vs vs' _ (h2.keep hw'.bel) (h2'.keep hw'.bel) u3 u4).mono ?_; rintro e w1 ⟨rfl, hb⟩; exact ⟨rfl, Cls.step hw' hb⟩) | (go_at_call 20; (with_reducible refine (law_back A g cap len c vs _ (hx2.keep hw'.bel) hcap (h2.keep hw'.bel) u1).mono ?_); rintro e w1 ⟨rfl, hb⟩; exact ⟨rfl, Cls.step hw' hb⟩) | (go_at_call 20; (with_reducible refine (law_back A' g' cap' len' c' vs' _ (hx'.keep hw'.bel) hcap' (h2'.keep hw'.bel) u2).mono ?_); rintro e w1 ⟨rfl, hb⟩; exact ⟨rfl, Cls.step hw' hb⟩)) | (obtain ⟨hc, hf⟩ := hw'.facts; go_simp; done) | (obtain ⟨hc, hf⟩ := hw'.facts; go_simp; first | exact rfl | exact ⟨rfl, rfl⟩))); clear hK K)
  refine wpQuiet_nil ?_
  intro wq hq
  have hA3 := hA2.belowS hq.bel
  have hB3 := hB2.belowS hq.bel
  have hbel3 := bel_step hbel hq hbel.size
  clear hA2 hB2 hbel c0 c1 c2 c3 c4 c5 z1 z2 h2 h2' hx2 hx' ht ht' hq
  obtain ⟨c0, c1, c2⟩ := hA3.cells3
  obtain ⟨c3, c4, c5⟩ := hB3.cells3
  have z1 := hA3.lt
  have z2 := hB3.lt
  go_wp2_with fail
  refine wp_region_cls (wq) (by kernel_rfl) (by kernel_rfl) (Cls.start _) ?_
  repeat
    refine wpQuiet_step (fun K hK => ?_)
    go_simp
    first
      | (refine hK _ ?_; clear hK K)
      | (apply Exists.intro; refine ⟨fun w' hw' => ?_, hK _ ?_⟩; (· (first | (exact rfl) | (first | (go_at_call 21; refine (value_Order _ _ _ _ _ _ _).mono ?_; rintro e w1 ⟨rfl, hb⟩; exact ⟨rfl, Cls.step hw' hb⟩) | (go_at_call 22; refine (ref_Order _ _ _ _ _ _ _).mono ?_; rintro e w1 ⟨rfl, hb⟩; exact ⟨rfl, Cls.step hw' hb⟩) | (go_at_call 24; refine (value_Clean _ _ _ _).mono ?_; rintro e w1 ⟨rfl, hb⟩; exact ⟨rfl, Cls.step hw' hb⟩) | (go_at_call 25; refine (relstoreref_Clean _ _ _ _).mono ?_; rintro e w1 ⟨rfl, hb⟩; exact ⟨rfl, Cls.step hw' hb⟩) | (go_at_call 23; refine (law_sameValue _ _ _ _).mono ?_; rintro e w1 ⟨rfl, hb⟩; exact ⟨rfl, Cls.step hw' hb⟩)) | (obtain ⟨hc, hf⟩ := hw'.facts; go_simp; done) | (obtain ⟨hc, hf⟩ := hw'.facts; go_simp; first | exact rfl | exact ⟨rfl, rfl⟩))); clear hK K)
  refine wpQuiet_nil ?_
  intro wq hq
  have hbel4 := bel_step hbel3 hq hbel3.size
  go_wp2_with fail
  go_ret
  exact ⟨rfl, hbel4⟩

end Go.Proofs.Ytlkkpgdgnnknpaa
