/-
  append onto a slice that is full: nothing that was there turns. No program in sight.
-/
import Derived.Test.YtlkkpgdgnnknpaaDoorAppend
import Derived.Laws.CopyRow
namespace Go.Proofs.YtlkkpgdgnnknpaaDoor
open Go.RowKit
set_option linter.unusedVariables false
set_option linter.unusedSimpArgs false

section
variable {P : Program} (w : World)
theorem run_append_full (base : Nat) (t tx ty e : TypeId) (i : TypeInfo) (z : Value) (size bytes : Nat) (ht : P.underlying t = some (.slice e)) (hi : P.info? e = some i) (hz : i.zero = some z)
    (hsize : i.size = size) (hby : i.bytes = bytes) (hzs : z.cells.size = size)
    (g n : Nat) (xs : List Value) (hown : w.ownsRow base e size (.slice (some ⟨g, 0, none⟩) n n) n xs)
    (x : Value) (m : Nat) (news : List Value) (hs : Src P size tx x m news w)
    (h63 : n + m ≤ maxLen) (hbytes : (n + m) * bytes ≤ 140737488355328) (hbase : base ≤ w.heap.size) :
    ∃ v' w', (Builtin.append_ #[t, tx] ty #[.slice (some ⟨g, 0, none⟩) n n, x]).run P w = .ok v' w' ∧ w'.ownsRow base e size v' (n + m) (xs ++ news) ∧ Below w.heap.size w w' := by
  subst hsize
  subst hby
  have hl := hs.newsLen
  have hsmall : n + m ≤ 9223372036854775807 := by simp only [maxLen] at h63; omega
  have hlen : (xs ++ news).length = (n + m) * i.size := by rw [List.length_append, hown.1, hl, Nat.add_mul]
  rcases hown.2 with ⟨h, _⟩ | ⟨g', cap, cur, h, hbg, hg, hnc, hcm, hcs, htake⟩
  · cases h
  · cases h
    by_cases hm : m = 0
    · subst hm
      have hn : news = [] := List.eq_nil_of_length_eq_zero (by simpa using hl)
      subst hn
      have hst := run_storeCells_at P g (n * i.size) e [] 0 cur w hg (by simp [hcs]) hs.one
      simp only [Nat.add_zero] at hst
      have hself : (cur.toList.take (n * i.size) ++ [] ++ cur.toList.drop (n * i.size + 0)).toArray = cur := by
        rw [List.append_nil, Nat.add_zero, List.take_append_drop]
      simp only [List.length_nil, hself, setRow_self w g cur e (0, 0) hg] at hst
      have hr : (Builtin.append_ #[t, tx] ty #[.slice (some ⟨g, 0, none⟩) n n, x]).run P w = .ok (.slice (some ⟨g, 0, none⟩) (n + 0) n) w := by
        rcases hs.kind with ⟨e', hk⟩ | hk <;> simp [Builtin.append_, run_underlying ht, run_underlying hk, sizeOf, typeInfo, hi, hs.len, hs.cells, Addr.add_lit, hst]
      exact ⟨_, _, hr, by simpa using hown, Below.refl _ _⟩
    · have hge := grownCap_ge w (n + m) n e
      have hcm' : grownCap w (n + m) n e ≤ maxLen := grownCap_le_maxLen w (n + m) n e h63
      have holds : ∀ j u, xs[j]? = some u → w.drew.cell? ((⟨g, 0, none⟩ : Addr).add j) = some u := fun j u hj => by
        have := hown.cells (g := g) rfl j u hj
        simpa using this
      have hr := run_append_grow_src (P := P) w t tx ty e i z ht hi hz (some ⟨g, 0, none⟩) n n xs (run_firstCells_some w.drew i.size n _ n n xs hown.1 holds) x m news hs (by omega) (by omega) (growslice_fits (by omega) hbytes)
      refine ⟨_, _, hr, ⟨hlen, .inr ⟨w.heap.size, _, _, rfl, hbase, heap_alloc_new w.drew _, hge, hcm', ?_, ?_⟩⟩, (Below.refl _ _).drew.alloc (Nat.le_refl _) _⟩
      · rw [Array.size_append, List.size_toArray, size_zeroCells, hzs, hlen, ← Nat.add_mul]
        congr 1
        omega
      · rw [Array.toList_append, ← hlen]
        exact List.take_left
end

end Go.Proofs.YtlkkpgdgnnknpaaDoor
