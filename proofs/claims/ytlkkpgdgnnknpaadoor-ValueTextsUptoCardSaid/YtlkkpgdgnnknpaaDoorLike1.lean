/-
  like and Like of package value: the greedy search says what the relation says.
-/
import Derived.Test.YtlkkpgdgnnknpaaDoorLike0
import Derived.Test.YtlkkpgdgnnknpaaDoorVal0
import Derived.BigQuiet
import Derived.Outline
import Derived.LoopTactic
import Derived.Deep.DeepCutAuto
namespace Go.Proofs.YtlkkpgdgnnknpaaDoor
open Go.RowKit

def likeM (n m i k f : Nat) : Nat := (n - f) * (n + m + 2) + (n - i) + (m - k)
theorem likeM_step {n m i k f : Nat} (h : i < n) : likeM n m (i + 1) (k + 1) f < likeM n m i k f := by
  unfold likeM; generalize (n - f) * (n + m + 2) = x; omega
theorem likeM_pct {n m i k f : Nat} (h : f ≤ i) (hk : k < m) : likeM n m i (k + 1) i < likeM n m i k f := by
  unfold likeM
  have : (n - i) * (n + m + 2) ≤ (n - f) * (n + m + 2) := Nat.mul_le_mul_right _ (by omega)
  generalize (n - f) * (n + m + 2) = x at *
  generalize (n - i) * (n + m + 2) = y at *
  omega
theorem likeM_more {n m i k f st : Nat} (h : f ≤ i) (hi : i < n) : likeM n m (f + 1) st (f + 1) < likeM n m i k f := by
  unfold likeM
  have e : n - f = (n - (f + 1)) + 1 := by omega
  rw [e, Nat.add_mul]
  generalize (n - (f + 1)) * (n + m + 2) = x
  omega
/-- what the search keeps, with star as the program has it -/
def LR (S P : Bs) (i k : Nat) (t : Int) (f : Nat) : Prop := f ≤ i ∧ ((t = -1 ∧ Like S P i k none) ∨ ∃ st : Nat, t = st ∧ Like S P i k (some (st + 1, f)))
theorem LR.start (S P : Bs) : LR S P 0 0 (-1) 0 := ⟨Nat.le_refl _, .inl ⟨rfl, like_start _ _⟩⟩
theorem LR.le {S P : Bs} {i k f : Nat} {t : Int} (h : LR S P i k t f) : i ≤ S.length ∧ k ≤ P.length ∧ f ≤ i ∧ -1 ≤ t ∧ t < P.length := by
  rcases h with ⟨h0, ⟨rfl, h⟩ | ⟨st, rfl, h⟩⟩
  · exact ⟨h.1, h.2.1, h0, by omega, by omega⟩
  · have := h.2.2.2.1; have := h.2.1
    exact ⟨h.1, h.2.1, h0, by omega, by omega⟩
theorem LR.step {S P : Bs} {i k f : Nat} {t : Int} {x c : UInt8} (h : LR S P i k t f) (hx : P[k]? = some x) (hc : S[i]? = some c) (hn : x ≠ pct) (he : x = und ∨ x = c) : LR S P (i + 1) (k + 1) t f := by
  have hk : k < P.length := (List.getElem?_eq_some_iff.1 hx).1
  have hi : i < S.length := (List.getElem?_eq_some_iff.1 hc).1
  rcases h with ⟨h0, ⟨rfl, h⟩ | ⟨st, rfl, h⟩⟩
  · exact ⟨by omega, .inl ⟨rfl, like_step h hk hi hx hc hn he⟩⟩
  · exact ⟨by omega, .inr ⟨st, rfl, like_step h hk hi hx hc hn he⟩⟩
theorem LR.pct {S P : Bs} {i k f : Nat} {t : Int} (h : LR S P i k t f) (hx : P[k]? = some pct) : LR S P i (k + 1) k i := by
  have hk : k < P.length := (List.getElem?_eq_some_iff.1 hx).1
  rcases h with ⟨h0, ⟨rfl, h⟩ | ⟨st, rfl, h⟩⟩
  · exact ⟨Nat.le_refl _, .inr ⟨k, rfl, like_pct h hk hx⟩⟩
  · exact ⟨Nat.le_refl _, .inr ⟨k, rfl, like_pct h hk hx⟩⟩
theorem LR.more {S P : Bs} {i k f : Nat} {t : Nat} (h : LR S P i k t f) (hi : i < S.length) (ho : Off S P i k) : LR S P (f + 1) (t + 1) t (f + 1) := by
  rcases h with ⟨h0, ⟨e, h⟩ | ⟨st, e, h⟩⟩
  · omega
  · obtain rfl : t = st := by omega
    exact ⟨Nat.le_refl _, .inr ⟨t, rfl, like_more h hi ho⟩⟩
theorem LR.no {S P : Bs} {i k f : Nat} {t : Int} (h : LR S P i k t f) (ht : t < 0) (hi : i < S.length) (ho : Off S P i k) : ¬ Fit S P := by
  rcases h with ⟨h0, ⟨e, h⟩ | ⟨st, e, h⟩⟩
  · exact like_no h hi ho
  · omega
theorem LR.done {S P : Bs} {k f : Nat} {t : Int} (h : LR S P S.length k t f) : Fit S P ↔ ∀ x ∈ P.drop k, x = Go.Proofs.YtlkkpgdgnnknpaaDoor.pct := by
  rcases h with ⟨h0, ⟨e, h⟩ | ⟨st, e, h⟩⟩
  · exact like_end h
  · exact like_end h
theorem byte_at (s : ByteArray) (i : Nat) (h : i < s.size) : s.data.toList[i]? = some s[i] := by
  rw [List.getElem?_eq_getElem (by simpa using h)]; rfl
theorem u8_eq {a b : UInt8} : a = b ↔ (a.toNat : Int) = (b.toNat : Int) := by
  constructor
  · rintro rfl; rfl
  · intro h; exact UInt8.toNat_inj.1 (by omega)



theorem ret_no {r : Bool} {A : Prop} (h : r = true ↔ A) (hn : ¬ A) : r = false := by
  cases r with
  | false => rfl
  | true => exact absurd (h.1 rfl) hn
set_option maxHeartbeats 6400000 in
theorem value_like (s p : ByteArray) (r : Bool) (hr : r = true ↔ Fit s.data.toList p.data.toList) (w : World) (hs : s.size ≤ 9223372036854775807) (hp : p.size ≤ 9223372036854775807) :
    Calls Tryd.prog 54 #[.string s, .string p] w fun e w' => e = .returned (.bool r) ∧ Below w.heap.size w w' := by
  have HR := Lib.hid hr; clear hr
  have ls : s.data.toList.length = s.size := by simp
  have lp : p.data.toList.length = p.size := by simp
  have LS := Lib.hid ls; have LP := Lib.hid lp; clear ls lp
  go_enter Tryd.func54, Tryd.ntmps54
  go_wp2_with fail
  go_loopw [4, 5, 6, 7, 8] (fun v4 v5 v6 v7 v8 wr => v4 = .bool false ∧ (∃ (i k f : Nat) (t : Int), v5 = .int .i64 i ∧ v6 = .int .i64 k ∧ v7 = .int .i64 t ∧ v8 = .int .i64 f ∧ LR s.data.toList p.data.toList i k t f) ∧ Below w.heap.size w wr) (fun _ v5 v6 _ v8 _ => likeM s.size p.size (intOf v5).toNat (intOf v6).toNat (intOf v8).toNat)
  case atStart => exact ⟨rfl, ⟨0, 0, 0, -1, rfl, rfl, rfl, rfl, LR.start _ _⟩, Below.refl _ _⟩
  case round =>
    obtain ⟨rfl, ⟨i, k, f, t, rfl, rfl, rfl, rfl, hL⟩, hbel⟩ := hrel
    obtain ⟨l1, l2, l3, l4, l5⟩ := hL.le
    rw [LS.out] at l1
    rw [LP.out] at l2 l5
    have HL := Lib.hid hL; clear hL
    have HB := Lib.hid hbel; clear hbel
    by_cases h1 : i < s.size
    · have SI := Lib.hid (byte_at s i h1)
      by_cases h2 : k < p.size
      · have PK := Lib.hid (byte_at p k h2)
        by_cases h3 : p[k] = pct
        · have g3 : ((p[k].toNat : Int) == 37) = true := by rw [h3]; rfl
          have X := Lib.hid h3; clear h3
          go_wp2_with fail
          go_roundw
          case rel => exact ⟨rfl, ⟨i, k + 1, i, k, rfl, by simp, rfl, rfl, HL.out.pct (by rw [PK.out, X.out])⟩, HB.out⟩
          case measure => simp [intOf]; exact likeM_pct l3 h2
        · have g3 : ((p[k].toNat : Int) == 37) = false := by rw [beq_eq_false_iff_ne]; intro e; exact h3 (u8_eq.2 e)
          have X := Lib.hid h3; clear h3
          by_cases h4 : p[k] = und ∨ p[k] = s[i]
          · have Y := Lib.hid h4
            rcases h4 with h4 | h4
            · have g4 : ((p[k].toNat : Int) == 95) = true := by rw [h4]; rfl
              clear h4
              go_wp2_with fail
              refine wp_region_cls (wr) (by kernel_rfl) (by kernel_rfl) (Cls.start _) ?_
              repeat
                first
                  | go_big_quiet_skip
                  | (go_big_quiet_want; (first | go_big_quiet_op | go_simp); first | go_big_quiet_on | (apply Exists.intro; refine ⟨fun w' hw' => ?_, ?_⟩; (· (first | (with_reducible exact rfl) | (fail) | (obtain ⟨hc, hf⟩ := hw'.facts; go_simp; first | done | (with_reducible exact rfl) | (with_reducible exact ⟨rfl, rfl⟩)))); go_big_quiet_on))
              refine wpQuiet_nil ?_
              intro wq hq
              go_wp2_with fail
              go_roundw
              case rel => exact ⟨rfl, ⟨i + 1, k + 1, f, t, by simp, by simp, rfl, rfl, HL.out.step PK.out SI.out X.out Y.out⟩, bel_step HB.out hq HB.out.size⟩
              case measure => simp [intOf]; exact likeM_step h1
            · by_cases h5 : p[k] = und
              · have g4 : ((p[k].toNat : Int) == 95) = true := by rw [h5]; rfl
                clear h4 h5
                go_wp2_with fail
                refine wp_region_cls (wr) (by kernel_rfl) (by kernel_rfl) (Cls.start _) ?_
                repeat
                  first
                    | go_big_quiet_skip
                    | (go_big_quiet_want; (first | go_big_quiet_op | go_simp); first | go_big_quiet_on | (apply Exists.intro; refine ⟨fun w' hw' => ?_, ?_⟩; (· (first | (with_reducible exact rfl) | (fail) | (obtain ⟨hc, hf⟩ := hw'.facts; go_simp; first | done | (with_reducible exact rfl) | (with_reducible exact ⟨rfl, rfl⟩)))); go_big_quiet_on))
                refine wpQuiet_nil ?_
                intro wq hq
                go_wp2_with fail
                go_roundw
                case rel => exact ⟨rfl, ⟨i + 1, k + 1, f, t, by simp, by simp, rfl, rfl, HL.out.step PK.out SI.out X.out Y.out⟩, bel_step HB.out hq HB.out.size⟩
                case measure => simp [intOf]; exact likeM_step h1
              · have g4 : ((p[k].toNat : Int) == 95) = false := by rw [beq_eq_false_iff_ne]; intro e; exact h5 (u8_eq.2 e)
                have g5 : ((p[k].toNat : Int) == (s[i].toNat : Int)) = true := by rw [h4]; simp
                clear h4 h5
                go_wp2_with fail
                refine wp_region_cls (wr) (by kernel_rfl) (by kernel_rfl) (Cls.start _) ?_
                repeat
                  first
                    | go_big_quiet_skip
                    | (go_big_quiet_want; (first | go_big_quiet_op | go_simp); first | go_big_quiet_on | (apply Exists.intro; refine ⟨fun w' hw' => ?_, ?_⟩; (· (first | (with_reducible exact rfl) | (fail) | (obtain ⟨hc, hf⟩ := hw'.facts; go_simp; first | done | (with_reducible exact rfl) | (with_reducible exact ⟨rfl, rfl⟩)))); go_big_quiet_on))
                refine wpQuiet_nil ?_
                intro wq hq
                go_wp2_with fail
                go_roundw
                case rel => exact ⟨rfl, ⟨i + 1, k + 1, f, t, by simp, by simp, rfl, rfl, HL.out.step PK.out SI.out X.out Y.out⟩, bel_step HB.out hq HB.out.size⟩
                case measure => simp [intOf]; exact likeM_step h1
          · have g4 : ((p[k].toNat : Int) == 95) = false := by rw [beq_eq_false_iff_ne]; intro e; exact h4 (.inl (u8_eq.2 e))
            have g5 : ((p[k].toNat : Int) == (s[i].toNat : Int)) = false := by rw [beq_eq_false_iff_ne]; intro e; exact h4 (.inr (u8_eq.2 e))
            have OFF := Lib.hid (show Off s.data.toList p.data.toList i k from .inr ⟨_, _, PK.out, SI.out, X.out, fun e => h4 (.inl e), fun e => h4 (.inr e)⟩)
            clear h4
            by_cases h6 : 0 ≤ t
            · obtain ⟨st, rfl⟩ : ∃ st : Nat, t = st := ⟨t.toNat, by omega⟩
              go_wp2_with fail
              refine wp_region_cls (wr) (by kernel_rfl) (by kernel_rfl) (Cls.start _) ?_
              repeat
                first
                  | go_big_quiet_skip
                  | (go_big_quiet_want; (first | go_big_quiet_op | go_simp); first | go_big_quiet_on | (apply Exists.intro; refine ⟨fun w' hw' => ?_, ?_⟩; (· (first | (with_reducible exact rfl) | (fail) | (obtain ⟨hc, hf⟩ := hw'.facts; go_simp; first | done | (with_reducible exact rfl) | (with_reducible exact ⟨rfl, rfl⟩)))); go_big_quiet_on))
              refine wpQuiet_nil ?_
              intro wq hq
              go_wp2_with fail
              go_roundw
              case rel => exact ⟨rfl, ⟨f + 1, st + 1, f + 1, st, by simp, by simp, rfl, by simp, HL.out.more (by rw [LS.out]; exact h1) OFF.out⟩, bel_step HB.out hq HB.out.size⟩
              case measure => simp [intOf]; exact likeM_more l3 h1
            · go_wp2_with fail
              refine wp_region_cls (wr) (by kernel_rfl) (by kernel_rfl) (Cls.start _) ?_
              repeat
                first
                  | go_big_quiet_skip
                  | (go_big_quiet_want; (first | go_big_quiet_op | go_simp); first | go_big_quiet_on | (apply Exists.intro; refine ⟨fun w' hw' => ?_, ?_⟩; (· (first | (with_reducible exact rfl) | (fail) | (obtain ⟨hc, hf⟩ := hw'.facts; go_simp; first | done | (with_reducible exact rfl) | (with_reducible exact ⟨rfl, rfl⟩)))); go_big_quiet_on))
              refine wpQuiet_nil ?_
              intro wq hq
              go_wp2_with fail
              go_ret
              exact ⟨ret_bool (ret_no HR.out (HL.out.no (by omega) (by rw [LS.out]; exact h1) OFF.out)).symm, bel_step HB.out hq HB.out.size⟩
      · have OFF := Lib.hid (show Off s.data.toList p.data.toList i k from .inl (by rw [LP.out]; omega))
        have g2 : decide ((k : Int) < (p.size : Int)) = false := by simp; omega
        by_cases h6 : 0 ≤ t
        · obtain ⟨st, rfl⟩ : ∃ st : Nat, t = st := ⟨t.toNat, by omega⟩
          go_wp2_with fail
          refine wp_region_cls (wr) (by kernel_rfl) (by kernel_rfl) (Cls.start _) ?_
          repeat
            first
              | go_big_quiet_skip
              | (go_big_quiet_want; (first | go_big_quiet_op | go_simp); first | go_big_quiet_on | (apply Exists.intro; refine ⟨fun w' hw' => ?_, ?_⟩; (· (first | (with_reducible exact rfl) | (fail) | (obtain ⟨hc, hf⟩ := hw'.facts; go_simp; first | done | (with_reducible exact rfl) | (with_reducible exact ⟨rfl, rfl⟩)))); go_big_quiet_on))
          refine wpQuiet_nil ?_
          intro wq hq
          go_wp2_with fail
          go_roundw
          case rel => exact ⟨rfl, ⟨f + 1, st + 1, f + 1, st, by simp, by simp, rfl, by simp, HL.out.more (by rw [LS.out]; exact h1) OFF.out⟩, bel_step HB.out hq HB.out.size⟩
          case measure => simp [intOf]; exact likeM_more l3 h1
        · go_wp2_with fail
          refine wp_region_cls (wr) (by kernel_rfl) (by kernel_rfl) (Cls.start _) ?_
          repeat
            first
              | go_big_quiet_skip
              | (go_big_quiet_want; (first | go_big_quiet_op | go_simp); first | go_big_quiet_on | (apply Exists.intro; refine ⟨fun w' hw' => ?_, ?_⟩; (· (first | (with_reducible exact rfl) | (fail) | (obtain ⟨hc, hf⟩ := hw'.facts; go_simp; first | done | (with_reducible exact rfl) | (with_reducible exact ⟨rfl, rfl⟩)))); go_big_quiet_on))
          refine wpQuiet_nil ?_
          intro wq hq
          go_wp2_with fail
          go_ret
          exact ⟨ret_bool (ret_no HR.out (HL.out.no (by omega) (by rw [LS.out]; exact h1) OFF.out)).symm, bel_step HB.out hq HB.out.size⟩
    · obtain rfl : i = s.size := by omega
      have hd := HL.out
      rw [← LS.out] at hd
      have HD := Lib.hid (HR.out.trans hd.done)
      clear hd HL l5 l4 l3
      go_wp2_with fail
      go_loop [6] (fun v6 => ∃ k : Nat, k ≤ p.size ∧ v6 = .int .i64 k ∧ (r = true ↔ ∀ x ∈ p.data.toList.drop k, x = pct)) (fun v6 => p.size - (intOf v6).toNat)
      case atStart => exact ⟨k, l2, rfl, HD.out⟩
      case round =>
        clear l2 HD
        obtain ⟨k, l2, rfl, hd⟩ := hrel
        have HD := Lib.hid hd; clear hd
        by_cases h2 : k < p.size
        · have PK := Lib.hid (byte_at p k h2)
          by_cases h3 : p[k] = pct
          · have g3 : ((p[k].toNat : Int) == 37) = true := by rw [h3]; rfl
            have X := Lib.hid h3; clear h3
            go_wp2_with fail
            go_round
            case rel => exact ⟨k + 1, by omega, by simp, by rw [HD.out]; exact pcts_snoc (by rw [LP.out]; exact h2) (by rw [PK.out, X.out])⟩
            case measure => simp [intOf]; omega
          · have g3 : ((p[k].toNat : Int) == 37) = false := by rw [beq_eq_false_iff_ne]; intro e; exact h3 (u8_eq.2 e)
            have X := Lib.hid h3; clear h3
            have g2 : ((k : Int) == (p.size : Int)) = false := by rw [beq_eq_false_iff_ne]; omega
            go_wp2_with fail
            go_ret
            exact ⟨ret_bool (ret_no HD.out (pcts_no (by rw [LP.out]; exact h2) PK.out X.out)).symm, HB.out⟩
        · obtain rfl : k = p.size := by omega
          go_wp2_with fail
          go_ret
          exact ⟨ret_bool (HD.out.2 (by rw [← LP.out, List.drop_length]; simp)).symm, HB.out⟩

end Go.Proofs.YtlkkpgdgnnknpaaDoor
