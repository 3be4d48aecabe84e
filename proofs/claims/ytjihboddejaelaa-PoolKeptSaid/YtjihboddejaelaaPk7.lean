/-
  A region that draws its order, walked ONCE by what each operation's value is good for: for each operation a predicate on its value and the world, kept by every later step that makes memory at most; then what must come last (the stores) in its order. No program in sight.
-/
import Derived.Test.YtjihboddejaelaaPk1
import Derived.Orders
import Derived.Tactics
import Derived.Test.YtjihboddejaelaaPk6
import Derived.Lib.BufferWrite
import Derived.Lib.SlBuf
import Derived.IntWalk
import Derived.Laws.MakeOwn
import Derived.Lib.Strings
import Derived.Test.YtjihboddejaelaaPk3
import Derived.Maps.StringElems
namespace Go.Proofs.Ytjihboddejaelaa
set_option linter.unusedVariables false
set_option linter.unusedSimpArgs false
open Go.RowKit

/-- the frame with these values in the operations' slots -/
def fillA : List Oper → List Value → Act → Act
  | o :: l, u :: us, a => fillA l us (a.put o.dst u)
  | _, _, a => a

theorem put_put (a : Act) (x : Option Tmp) (u v : Value) : (a.put x u).put x v = a.put x v := by
  cases x with
  | none => rfl
  | some d => simp [Act.put, Array.setIfInBounds_setIfInBounds]
theorem put_same (a : Act) (x : Option Tmp) : ∃ u, a.put x u = a := by
  cases x with
  | none => exact ⟨undef, rfl⟩
  | some d =>
    refine ⟨a.tmps.getD d undef, ?_⟩
    have : a.tmps.setIfInBounds d (a.tmps.getD d undef) = a.tmps := by
      apply Array.ext
      · simp
      · intro i h1 h2
        rw [Array.getElem_setIfInBounds]
        split
        · rename_i e; subst e; simp [Array.getD_eq_getD_getElem?, h2]
        · rfl
    show ({ a with tmps := _ } : Act) = a
    rw [this]
theorem fillA_put (x : Option Tmp) (v : Value) : ∀ (l : List Oper) (us : List Value) (a : Act), (∀ o ∈ l, ∀ d, x = some d → o.dst ≠ some d) → (fillA l us a).put x v = fillA l us (a.put x v)
  | [], _, _, _ => by simp [fillA]
  | _ :: _, [], _, _ => by simp [fillA]
  | o :: l, u :: us, a, h => by
    simp only [fillA]
    rw [fillA_put x v l us _ (fun y hy => h y (List.mem_cons_of_mem _ hy)), Act.put_comm a (x := o.dst) (y := x) u v (fun d hd hx => h o (List.mem_cons_self ..) d hx hd)]
theorem fillA_same : ∀ (l : List Oper) (a : Act), ∃ us, us.length = l.length ∧ fillA l us a = a
  | [], a => ⟨[], rfl, rfl⟩
  | o :: l, a => by
    obtain ⟨u, hu⟩ := put_same a o.dst
    obtain ⟨us, hl, hf⟩ := fillA_same l a
    exact ⟨u :: us, by simp [hl], by simp only [fillA]; rw [hu, hf]⟩

/-- no slot is written twice -/
def distinctB : List Oper → Bool
  | [] => true
  | o :: l => (l.all fun y => match o.dst with | some d => y.dst != some d | none => true) && distinctB l
theorem fillA_set (v : Value) : ∀ (l : List Oper) (us : List Value) (i : Nat) (o : Oper) (a : Act), distinctB l = true → us.length = l.length → l[i]? = some o → (fillA l us a).put o.dst v = fillA l (us.set i v) a
  | [], _, _, _, _, _, _, h => by simp at h
  | x :: l, u :: us, i, o, a, hd, hl, hi => by
    simp only [distinctB, Bool.and_eq_true, List.all_eq_true] at hd
    cases i with
    | zero =>
      simp only [List.getElem?_cons_zero, Option.some.injEq] at hi
      subst hi
      simp only [fillA, List.set_cons_zero]
      rw [fillA_put _ _ _ _ _ (fun y hy d hx => by have := hd.1 y hy; rw [hx] at this; simpa using this), put_put]
    | succ i =>
      simp only [List.getElem?_cons_succ] at hi
      simp only [fillA, List.set_cons_succ]
      exact fillA_set v l us i o _ hd.2 (by simpa using hl) hi
  | _ :: _, [], _, _, _, _, hl, _ => by simp at hl

/-- whom an operation waits for, also through others: a row of Bools, out of the rows of those ahead of it -/
def rowW (md : Region.Mode) (n : Nat) (acc : List (List Bool)) (o : Oper) : List Bool :=
  (List.range n).map fun j => o.after.toList.any fun e => Region.binds md e && (e.on == j || (acc.getD e.on []).getD j false)
def rowsB (md : Region.Mode) (n : Nat) (l : List Oper) : List (List Bool) := l.foldl (fun acc o => acc ++ [rowW md n acc o]) []
theorem rowsB_snoc (md : Region.Mode) (n : Nat) (l : List Oper) (o : Oper) : rowsB md n (l ++ [o]) = rowsB md n l ++ [rowW md n (rowsB md n l) o] := by
  simp [rowsB, List.foldl_append]
theorem rowsA_length (md : Region.Mode) (n : Nat) : ∀ (l : List Oper) (acc : List (List Bool)), (l.foldl (fun acc o => acc ++ [rowW md n acc o]) acc).length = acc.length + l.length
  | [], acc => by simp
  | o :: l, acc => by
    rw [List.foldl_cons, rowsA_length md n l, List.length_append, List.length_cons, List.length_cons, List.length_nil]
    omega
theorem rowsB_length (md : Region.Mode) (n : Nat) (l : List Oper) : (rowsB md n l).length = l.length := by
  unfold rowsB
  rw [rowsA_length]
  simp
theorem rowsA_append (md : Region.Mode) (n : Nat) : ∀ (r : List Oper) (acc : List (List Bool)), ∃ t, r.foldl (fun acc o => acc ++ [rowW md n acc o]) acc = acc ++ t
  | [], acc => ⟨[], by simp⟩
  | o :: r, acc => by
    obtain ⟨t, ht⟩ := rowsA_append md n r (acc ++ [rowW md n acc o])
    exact ⟨rowW md n acc o :: t, by rw [List.foldl_cons, ht, List.append_assoc]; rfl⟩
theorem rowsB_append (md : Region.Mode) (n : Nat) (l r : List Oper) : ∃ t, rowsB md n (l ++ r) = rowsB md n l ++ t := by
  unfold rowsB
  rw [List.foldl_append]
  exact rowsA_append md n r _
/-- operation k waits for j -/
def waits (md : Region.Mode) (l : List Oper) (k j : Nat) : Bool := ((rowsB md l.length l).getD k []).getD j false
theorem waits_spec {md : Region.Mode} {l : List Oper} {k j : Nat} {o : Oper} (ho : l[k]? = some o) (h : waits md l k j = true) : ∃ e ∈ o.after, Region.binds md e = true ∧ (e.on = j ∨ (e.on < k ∧ waits md l e.on j = true)) := by
  have hk : k < l.length := (List.getElem?_eq_some_iff.1 ho).1
  have hsplit : l = l.take k ++ [o] ++ l.drop (k + 1) := by
    rw [List.append_assoc, List.singleton_append, ← (List.getElem?_eq_some_iff.1 ho).2, ← List.drop_eq_getElem_cons hk, List.take_append_drop]
  obtain ⟨t, ht⟩ := rowsB_append md l.length (l.take k ++ [o]) (l.drop (k + 1))
  rw [← hsplit, rowsB_snoc] at ht
  have hlen : (rowsB md l.length (l.take k)).length = k := by rw [rowsB_length, List.length_take]; omega
  have hat : (rowsB md l.length l).getD k [] = rowW md l.length (rowsB md l.length (l.take k)) o := by
    rw [ht, List.append_assoc, List.getD_eq_getElem?_getD, List.getElem?_append_right (by omega), hlen]
    simp
  have hbef : ∀ q, q < k → (rowsB md l.length l).getD q [] = (rowsB md l.length (l.take k)).getD q [] := fun q hq => by
    rw [ht, List.append_assoc, List.getD_eq_getElem?_getD, List.getElem?_append_left (by omega), List.getD_eq_getElem?_getD]
  unfold waits at h
  rw [hat] at h
  have hj : j < l.length := by
    rcases Nat.lt_or_ge j l.length with h1 | h1
    · exact h1
    · rw [List.getD_eq_getElem?_getD, List.getElem?_eq_none (by simpa [rowW] using h1)] at h
      cases h
  have h' : (o.after.toList.any fun e => Region.binds md e && (e.on == j || ((rowsB md l.length (l.take k)).getD e.on []).getD j false)) = true := by
    rw [List.getD_eq_getElem?_getD] at h
    unfold rowW at h
    rw [List.getElem?_map, List.getElem?_range hj] at h
    exact h
  obtain ⟨e, he, hh⟩ := List.any_eq_true.1 h'
  simp only [Bool.and_eq_true, Bool.or_eq_true, beq_iff_eq] at hh
  refine ⟨e, by simpa using he, hh.1, hh.2.imp id fun h2 => ?_⟩
  have hek : e.on < k := by
    rcases Nat.lt_or_ge e.on k with h1 | h1
    · exact h1
    · have hn : (rowsB md l.length (l.take k)).getD e.on [] = [] := by rw [List.getD_eq_getElem?_getD, List.getElem?_eq_none (by omega)]; rfl
      rw [hn] at h2
      simp at h2
  exact ⟨hek, by unfold waits; rw [hbef _ hek]; exact h2⟩

/-- edges go back alone -/
def backB (md : Region.Mode) : Nat → List Oper → Bool
  | _, [] => true
  | k, o :: l => (o.after.toList.all fun e => !Region.binds md e || decide (e.on < k)) && backB md (k + 1) l
theorem backB_spec {md : Region.Mode} : ∀ {k : Nat} {l : List Oper}, backB md k l = true → ∀ (i : Nat) (o : Oper), l[i]? = some o → ∀ e ∈ o.after, Region.binds md e = true → e.on < k + i
  | _, [], _, _, _, h, _, _, _ => by simp at h
  | k, x :: l, hB, i, o, hi, e, he, hb => by
    simp only [backB, Bool.and_eq_true, List.all_eq_true, Bool.or_eq_true, decide_eq_true_eq] at hB
    cases i with
    | zero =>
      simp only [List.getElem?_cons_zero, Option.some.injEq] at hi
      subst hi
      rcases hB.1 e (by simpa using he) with h | h
      · simp [hb] at h
      · simpa using h
    | succ i =>
      have := backB_spec hB.2 i o (by simpa using hi) e he hb
      omega
/-- edges go back alone, and each operation from number m on waits for all that stand ahead of it -/
def tailB (md : Region.Mode) (m : Nat) (l : List Oper) : Bool :=
  backB md 0 l && (List.range l.length).all fun k => decide (k < m) || (List.range k).all fun j => waits md l k j
theorem tailB_back {md : Region.Mode} {m : Nat} {l : List Oper} (h : tailB md m l = true) {i : Nat} {o : Oper} (hi : l[i]? = some o) {e : Edge} (he : e ∈ o.after) (hb : Region.binds md e = true) : e.on < i := by
  simp only [tailB, Bool.and_eq_true] at h
  have := backB_spec h.1 i o hi e he hb
  omega
theorem tailB_waits {md : Region.Mode} {m : Nat} {l : List Oper} (h : tailB md m l = true) {k j : Nat} (hk : k < l.length) (hm : m ≤ k) (hj : j < k) : waits md l k j = true := by
  simp only [tailB, Bool.and_eq_true, List.all_eq_true, List.mem_range, Bool.or_eq_true, decide_eq_true_eq] at h
  rcases h.2 k hk with h1 | h1
  · omega
  · exact h1 j hj

/-- nobody waits for what stands behind it -/
theorem waits_below {md : Region.Mode} {m : Nat} {l : List Oper} (hB : tailB md m l = true) : ∀ {k j : Nat}, k < j → j < l.length → waits md l k j = false := by
  intro k
  induction k using Nat.strongRecOn with
  | _ k ih =>
    intro j hkj hj
    cases hw : waits md l k j with
    | false => rfl
    | true =>
      exfalso
      have hk : l[k]? = some l[k] := by simp
      obtain ⟨e, he, hb, h⟩ := waits_spec hk hw
      have hlt := tailB_back hB hk he hb
      rcases h with h | ⟨_, h⟩
      · omega
      · rw [ih e.on hlt (by omega) hj] at h; cases h

section
variable {P : Program} {md : Region.Mode} {Q : Exit → Act → World → Prop}

theorem getD_lt {l : Array Bool} {j : Nat} (h : j < l.size) (d : Bool) : l.getD j d = l[j] := by simp [Array.getD_eq_getD_getElem?, h]
theorem getD_set {l : Array Bool} {i j : Nat} (d : Bool) : (l.setIfInBounds i true).getD j d = if i = j ∧ j < l.size then true else l.getD j d := by
  by_cases hj : j < l.size
  · rw [getD_lt (by simpa using hj), getD_lt hj, Array.getElem_setIfInBounds]
    · simp [hj]
    · exact hj
  · rw [if_neg (fun h => hj h.2)]
    simp [Array.getD_eq_getD_getElem?, hj]

/-- from number k on only what stands next may come up -/
theorem wpAny_tail {ops : Array Oper} {m : Nat} (hB : tailB md m ops.toList = true) : ∀ (rest : List Oper) (k : Nat) (listed : Array Bool) (b : Act) (w : World), m ≤ k → listed.size = ops.size → (∀ j, j < k → listed.getD j false = true) →
    (∀ j, k ≤ j → j < ops.size → listed.getD j true = false) → rest = ops.toList.drop k → wpList P ops Q rest b w → wpAny P md ops Q rest.length listed b w
  | [], k, listed, b, w, _, hs, ht, _, hr, h => by
    refine ⟨?_, h⟩
    have hk : ops.size ≤ k := by
      have := congrArg List.length hr
      simp at this; omega
    apply List.eq_nil_iff_forall_not_mem.2
    intro j hj
    obtain ⟨h0, o, ho, _⟩ := mem_ready.1 hj
    have hlt : j < ops.size := (Array.getElem?_eq_some_iff.1 ho).1
    have := ht j (by omega)
    rw [getD_lt (by omega)] at h0 this
    rw [h0] at this; cases this
  | o :: rest, k, listed, b, w, hm, hs, ht, hf, hr, h => by
    have hlt : k < ops.size := by
      have := congrArg List.length hr
      simp at this; omega
    have hok : ops[k]? = some o := by
      have : (ops.toList.drop k)[0]? = some o := by rw [← hr]; rfl
      simpa using this
    have hrest : rest = ops.toList.drop (k + 1) := by
      have := congrArg List.tail hr
      simpa using this
    have hkr : k ∈ Region.ready md ops listed := mem_ready.2 ⟨hf k (Nat.le_refl _) hlt, o, hok, fun e he hb => ht _ (by
      exact tailB_back hB (i := k) (o := o) (by simpa using hok) he hb)⟩
    refine ⟨(fun h0 => by rw [h0] at hkr; cases hkr), fun i hi => ?_⟩
    obtain ⟨hi0, oi, hoi, hall⟩ := mem_ready.1 hi
    have hilt : i < ops.size := (Array.getElem?_eq_some_iff.1 hoi).1
    have hik : ¬ i < k := fun hh => by
      have := ht i hh
      rw [getD_lt (by omega)] at hi0 this
      rw [hi0] at this; cases this
    have hki : ¬ k < i := fun hh => by
      obtain ⟨e, he, hb, hon⟩ := waits_spec (by simpa using hoi) (tailB_waits hB (k := i) (j := k) (by simpa using hilt) (by omega) hh)
      have h1 := hall e he hb
      have hel : e.on < ops.size := by have := tailB_back hB (i := i) (o := oi) (by simpa using hoi) he hb; omega
      have hek : k ≤ e.on := by
        rcases hon with h2 | ⟨_, h2⟩
        · omega
        · rcases Nat.lt_or_ge e.on k with h3 | h3
          · exact absurd h2 (by rw [waits_below hB h3 hlt]; simp)
          · exact h3
      have h2 := hf e.on hek hel
      rw [getD_lt (by omega)] at h1 h2
      rw [h1] at h2; cases h2
    obtain rfl : i = k := by omega
    have h' : wpOp P ops Q i (wpList P ops Q rest) b w := by
      unfold wpOp
      rw [hok]
      exact h
    refine wpOp_mono (fun a' w' hh => ?_) h'
    refine wpAny_tail hB rest (i + 1) _ a' w' (by omega) (by simpa using hs) (fun j hj => ?_) (fun j hj hjs => ?_) hrest hh
    · rw [getD_set]
      split
      · rfl
      · rename_i hn
        exact ht j (by
          rcases Nat.lt_or_ge j i with h1 | h1
          · exact h1
          · exact absurd ⟨by omega, by omega⟩ hn)
    · rw [getD_set]
      rw [if_neg (by omega)]
      exact hf j (by omega) hjs

/-- what is asked once an operation has been carried out: a value of which R holds -/
def goodUpon (P : Program) (R : Value → World → Prop) : Result Next → Prop
  | .ok (.value u) w' => R u w'
  | .ok .skip w' => R undef w'
  | .ok (.enter f args) w' => Calls P f args w' (fun e w'' => ∃ v, e = .returned v ∧ R v w'')
  | _ => False
/-- what is asked of operation o, number i: carried out (or not wanted) it leaves a value that is good for what PP says, and makes memory at most -/
def OpGood (P : Program) (ops : Array Oper) (PP : Nat → Value → World → Prop) (own : Nat → Value → Option Nat) (i : Nat) (o : Oper) (A : Act) (w : World) : Prop :=
  if Region.wanted o (yielded ops A.tmps) then goodUpon P (fun v w' => Below w.heap.size w w' ∧ PP i v w' ∧ ∀ b, own i v = some b → w.heap.size ≤ b) ((execOp A.eval o).run P w) else PP i undef w
attribute [local go_sem] OpGood goodUpon
theorem wp_of_good {o : Oper} {A : Act} {w : World} {R : Value → World → Prop} (h : goodUpon P R ((execOp A.eval o).run P w)) : o.wp P A w (fun a' w' => ∃ v, a' = A.put o.dst v ∧ R v w') Q := by
  unfold Oper.wp
  generalize (execOp A.eval o).run P w = r at *
  cases r with
  | ok n w' =>
    cases n <;> simp only [goodUpon] at h <;> simp only [Oper.upon]
    case value u => exact ⟨u, rfl, h⟩
    case skip => exact ⟨undef, rfl, h⟩
    case enter f args => exact h.mono fun e w'' ⟨v, he, hr⟩ => by subst he; exact ⟨v, rfl, hr⟩
  | halt x w' => simp only [goodUpon] at h

theorem good_own {ops : Array Oper} {PP : Nat → Value → World → Prop} {own : Nat → Value → Option Nat} {i : Nat} {o : Oper} {A : Act} {w : World} (hg : o.guard = none) (h : goodUpon P (fun v w' => Below w.heap.size w w' ∧ PP i v w' ∧ ∀ b, own i v = some b → w.heap.size ≤ b) ((execOp A.eval o).run P w)) : OpGood P ops PP own i o A w := by
  unfold OpGood
  rw [if_pos (by simp [Region.wanted, hg])]
  exact h
theorem goodUpon_mono {R R' : Value → World → Prop} (h : ∀ v w, R v w → R' v w) {r : Result Next} (hr : goodUpon P R r) : goodUpon P R' r := by
  cases r with
  | ok n w' =>
    cases n <;> simp only [goodUpon] at hr ⊢
    case value u => exact h _ _ hr
    case skip => exact h _ _ hr
    case enter f args => exact hr.mono fun e w'' ⟨v, he, hv⟩ => ⟨v, he, h _ _ hv⟩
  | halt x w' => simp only [goodUpon] at hr
/-- no operation owns a block -/
def noOwn : Nat → Value → Option Nat := fun _ _ => none
theorem good_plain {ops : Array Oper} {PP : Nat → Value → World → Prop} {i : Nat} {o : Oper} {A : Act} {w : World} (hg : o.guard = none) (h : goodUpon P (fun v w' => Below w.heap.size w w' ∧ PP i v w') ((execOp A.eval o).run P w)) : OpGood P ops PP noOwn i o A w :=
  good_own hg (goodUpon_mono (fun _ _ hh => ⟨hh.1, hh.2, fun b hb => by cases hb⟩) h)
theorem wpAny_inv {l1 l2 : List Oper} {a : Act} {C : World → Prop} {PP : Nat → Value → World → Prop} {own : Nat → Value → Option Nat} (hown : ∀ j u w, PP j u w → ∀ b, own j u = some b → b < w.heap.size) (hund : ∀ j, own j undef = none) (hd : distinctB l1 = true) (hB : tailB md l1.length (l1 ++ l2) = true)
    (hC : ∀ w w', C w → Below w.heap.size w w' → C w') (hst : ∀ j u w w', Below w.heap.size w w' → PP j u w → PP j u w')
    (hops : ∀ (us : List Value) (w : World), us.length = l1.length → C w → ∀ i o, l1[i]? = some o → (∀ j, (o.after.toList.any fun e => Region.binds md e && e.on == j) = true → PP j (us.getD j undef) w) →
      OpGood P (l1 ++ l2).toArray PP own i o (fillA l1 us a) w)
    (hend : ∀ (us : List Value) (w : World), us.length = l1.length → C w → (∀ j, j < l1.length → PP j (us.getD j undef) w) → (∀ i j b, i < l1.length → j < l1.length → i ≠ j → own i (us.getD i undef) = some b → own j (us.getD j undef) ≠ some b) → wpList P (l1 ++ l2).toArray Q l2 (fillA l1 us a) w) :
    ∀ (fuel : Nat) (listed : Array Bool) (us : List Value) (w : World), listed.size = l1.length + l2.length → listed.toList.count false = fuel → us.length = l1.length → C w →
      (∀ j, j < l1.length → listed.getD j true = true → PP j (us.getD j undef) w) → (∀ j, l1.length ≤ j → j < l1.length + l2.length → listed.getD j true = false) →
      (∀ q o, (l1 ++ l2)[q]? = some o → listed.getD q true = true → ∀ e ∈ o.after, Region.binds md e = true → listed.getD e.on false = true) →
      (∀ i j b, i < l1.length → j < l1.length → i ≠ j → listed.getD i true = true → listed.getD j true = true → own i (us.getD i undef) = some b → own j (us.getD j undef) ≠ some b) →
      wpAny P md (l1 ++ l2).toArray Q fuel listed (fillA l1 us a) w := by
  intro fuel
  induction fuel with
  | zero =>
    intro listed us w hs hc hl hCw hP hno hdc hdis
    have hall : ∀ j, j < listed.size → listed.getD j true = true := fun j hj => by
      have hn : false ∉ listed.toList := fun hm => by have := List.count_pos_iff.2 hm; omega
      rw [getD_lt hj]
      cases hv : listed[j] with
      | true => rfl
      | false => exact absurd (by rw [← hv]; simp) hn
    have h2 : l2 = [] := by
      cases l2 with
      | nil => rfl
      | cons x l =>
        have := hno l1.length (Nat.le_refl _) (by simp)
        rw [hall _ (by rw [hs]; simp)] at this
        cases this
    subst h2
    have he := hend us w hl hCw (fun j hj => hP j hj (hall j (by rw [hs]; simp; omega))) (fun i j b hi hj hne => hdis i j b hi hj hne (hall i (by rw [hs]; simp; omega)) (hall j (by rw [hs]; simp; omega)))
    have := wpAny_tail (P := P) (Q := Q) (md := md) (ops := (l1 ++ []).toArray) (m := l1.length) (by simpa using hB) [] l1.length listed (fillA l1 us a) w (Nat.le_refl _) (by simpa using hs)
      (fun j hj => by have := hall j (by rw [hs]; simp; omega); rw [getD_lt (by rw [hs]; simp; omega)] at this ⊢; exact this)
      (fun j hj hjs => by simp at hjs; omega) (by simp) he
    exact this
  | succ fuel ih =>
    intro listed us w hs hc hl hCw hP hno hdc hdis
    by_cases hall : ∀ j, j < l1.length → listed.getD j true = true
    · have he := hend us w hl hCw (fun j hj => hP j hj (hall j hj)) (fun i j b hi hj hne => hdis i j b hi hj hne (hall i hi) (hall j hj))
      have hlen : l2.length = fuel + 1 := by
        rw [← hc]
        have e : listed.toList = List.replicate l1.length true ++ List.replicate l2.length false := by
          apply List.ext_getElem
          · simp [hs]
          · intro j h1 h2
            have hj : j < listed.size := by simpa using h1
            rw [List.getElem_append]
            split
            · rename_i hlt
              have := hall j (by simpa using hlt)
              rw [getD_lt hj] at this
              simpa using this
            · rename_i hge
              have := hno j (by simpa using hge) (by rw [← hs]; exact hj)
              rw [getD_lt hj] at this
              simpa using this
        rw [e, List.count_append, List.count_replicate, List.count_replicate]
        simp
      have := wpAny_tail (P := P) (Q := Q) (md := md) (ops := (l1 ++ l2).toArray) (m := l1.length) (by simpa using hB) l2 l1.length listed (fillA l1 us a) w (Nat.le_refl _) (by simpa using hs)
        (fun j hj => by have := hall j hj; rw [getD_lt (by rw [hs]; omega)] at this ⊢; exact this)
        (fun j hj hjs => hno j hj (by simpa using hjs)) (by simp) he
      rw [hlen] at this
      exact this
    · have hex : ∃ j, j < l1.length ∧ listed.getD j true = false := by
        refine Classical.byContradiction fun hne => hall fun j hj => ?_
        cases hv : listed.getD j true with
        | true => rfl
        | false => exact absurd ⟨j, hj, hv⟩ hne
      -- the first that is not listed may come up
      have hmin : ∃ j, j < l1.length ∧ listed.getD j true = false ∧ ∀ q, q < j → listed.getD q true = true := by
        obtain ⟨j, hj, hf⟩ := hex
        induction j using Nat.strongRecOn with
        | _ j ihj =>
          by_cases h : ∀ q, q < j → listed.getD q true = true
          · exact ⟨j, hj, hf, h⟩
          · have : ∃ q, q < j ∧ listed.getD q true = false := by
              refine Classical.byContradiction fun hne => h fun q hq => ?_
              cases hv : listed.getD q true with
              | true => rfl
              | false => exact absurd ⟨q, hq, hv⟩ hne
            obtain ⟨q, hq, hqf⟩ := this
            exact ihj q hq (by omega) hqf
      obtain ⟨k, hk, hkf, hkmin⟩ := hmin
      have hgetk : (l1 ++ l2).toArray[k]? = some l1[k] := by simp [List.getElem?_append_left hk, hk]
      have hkr : k ∈ Region.ready md (l1 ++ l2).toArray listed := mem_ready.2 ⟨hkf, l1[k], hgetk, fun e he hb => by
        have hlt := tailB_back hB (i := k) (o := l1[k]) (by simpa using hgetk) he hb
        have := hkmin e.on (by omega)
        rw [getD_lt (by rw [hs]; omega)] at this ⊢
        exact this⟩
      refine ⟨(fun h0 => by rw [h0] at hkr; cases hkr), fun i hi => ?_⟩
      obtain ⟨hi0, oi, hoi, hafter⟩ := mem_ready.1 hi
      have him : i < l1.length := by
        rcases Nat.lt_or_ge i l1.length with h | h
        · exact h
        · exfalso
          have hil : i < (l1 ++ l2).length := (List.getElem?_eq_some_iff.1 (show (l1 ++ l2)[i]? = some oi by simpa using hoi)).1
          -- what waits for k, and is listed (or may come up), has k listed
          have key : ∀ q, q < (l1 ++ l2).length → waits md (l1 ++ l2) q k = true → (listed.getD q true = true ∨ q = i) → False := by
            intro q
            induction q using Nat.strongRecOn with
            | _ q ihq =>
              intro hq hw hor
              have hqo : (l1 ++ l2)[q]? = some (l1 ++ l2)[q] := by simp
              obtain ⟨e, he, hb, hon⟩ := waits_spec hqo hw
              have hlt := tailB_back hB hqo he hb
              have hle : listed.getD e.on false = true := by
                rcases hor with h1 | h1
                · exact hdc q _ hqo h1 e he hb
                · subst h1
                  have : (l1 ++ l2)[q] = oi := by
                    have h3 : (l1 ++ l2)[q]? = some oi := by simpa using hoi
                    rw [hqo] at h3
                    exact Option.some.inj h3
                  exact hafter e (by rw [← this]; exact he) hb
              have hes : e.on < listed.size := by rw [hs, ← List.length_append]; omega
              rcases hon with h2 | ⟨_, h2⟩
              · rw [h2] at hle
                rw [getD_lt (by rw [hs]; omega)] at hle hkf
                rw [hle] at hkf; cases hkf
              · refine ihq e.on hlt (by omega) h2 (.inl ?_)
                rw [getD_lt hes] at hle ⊢
                exact hle
          exact key i hil (tailB_waits hB hil h (by omega)) (.inr rfl)
      have hoi1 : l1[i]? = some oi := by simpa [List.getElem?_append_left him] using hoi
      have hgood := hops us w hl hCw i oi hoi1 (fun j hj => by
        obtain ⟨q, hq, hh⟩ := List.any_eq_true.1 hj
        simp only [Bool.and_eq_true, beq_iff_eq] at hh
        have hlt := tailB_back hB (i := i) (o := oi) (by simpa using hoi) (by simpa using hq) hh.1
        have := hafter _ (by simpa using hq) hh.1
        rw [hh.2] at this hlt
        refine hP j (by omega) ?_
        rw [getD_lt (by rw [hs]; omega)] at this ⊢
        exact this)
      have hcount : (listed.setIfInBounds i true).toList.count false = fuel := by
        have hil : i < listed.toList.length := by simp [hs]; omega
        have hv : listed.toList[i] = false := by
          rw [getD_lt (by simpa using hil)] at hi0
          simpa using hi0
        rw [Array.toList_setIfInBounds, List.count_set hil, hv, hc]
        simp
      have next : ∀ v w', Below w.heap.size w w' → PP i v w' → (∀ b, own i v = some b → w.heap.size ≤ b) → wpAny P md (l1 ++ l2).toArray Q fuel (listed.setIfInBounds i true) ((fillA l1 us a).put oi.dst v) w' := fun v w' hb hp hfr => by
        rw [fillA_set v l1 us i oi a hd hl hoi1]
        refine ih _ _ w' (by simpa using hs) hcount (by simpa using hl) (hC w w' hCw hb) (fun j hj hjl => ?_) (fun j hj hjs => ?_) (fun q o hqo hql e he heb => ?_) (fun x y b hx hy hne hxl hyl hox hoy => ?_)
        · rw [getD_set] at hjl
          by_cases hij : i = j
          · subst hij
            have : (us.set i v).getD i undef = v := by simp [List.getD, hl, him]
            rw [this]; exact hp
          · rw [if_neg (by omega)] at hjl
            have : (us.set i v).getD j undef = us.getD j undef := by simp [List.getD, List.getElem?_set_ne hij]
            rw [this]
            exact hst j _ w w' hb (hP j hj hjl)
        · rw [getD_set, if_neg (by omega)]
          exact hno j hj hjs
        · have hlist : listed.getD e.on false = true := by
            rw [getD_set] at hql
            by_cases hiq : i = q
            · subst hiq
              have h3 : (l1 ++ l2)[i]? = some oi := by simpa using hoi
              rw [h3] at hqo
              cases hqo
              exact hafter e he heb
            · rw [if_neg (fun hh => hiq hh.1)] at hql
              exact hdc q o hqo hql e he heb
          rw [getD_set]
          split
          · rfl
          · exact hlist
        · rw [getD_set] at hxl hyl
          have atI : (us.set i v).getD i undef = v := by simp [List.getD, hl, him]
          have atO : ∀ j, i ≠ j → (us.set i v).getD j undef = us.getD j undef := fun j hij => by simp [List.getD, List.getElem?_set_ne hij]
          by_cases hix : i = x
          · subst hix
            rw [atI] at hox
            rw [atO y hne] at hoy
            rw [if_neg (fun hh => hne hh.1)] at hyl
            have h1 := hfr b hox
            have h2 := hown y _ w (hP y hy hyl) b hoy
            omega
          · rw [atO x hix] at hox
            rw [if_neg (fun hh => hix hh.1)] at hxl
            by_cases hiy : i = y
            · subst hiy
              rw [atI] at hoy
              have h1 := hfr b hoy
              have h2 := hown x _ w (hP x hx hxl) b hox
              omega
            · rw [atO y hiy] at hoy
              rw [if_neg (fun hh => hiy hh.1)] at hyl
              exact hdis x y b hx hy hne hxl hyl hox hoy
      unfold wpOp
      simp only [hoi]
      unfold OpGood at hgood
      by_cases hw : Region.wanted oi (yielded (l1 ++ l2).toArray (fillA l1 us a).tmps) = true
      · rw [if_pos hw] at hgood ⊢
        refine .inl (Oper.wp_mono (fun a' w' hh => ?_) (wp_of_good hgood))
        obtain ⟨v, rfl, hb, hp, hfr⟩ := hh
        exact next v w' hb hp hfr
      · rw [if_neg hw] at hgood ⊢
        exact next undef w (Below.refl _ _) hgood (fun b hb => by rw [hund] at hb; cases hb)

/-- every operation is good, one after the other (each may lean on those that it waits for) -/
def AllGood (P : Program) (ops : Array Oper) (PP : Nat → Value → World → Prop) (own : Nat → Value → Option Nat) (A : Act) (us : List Value) (w : World) : Nat → List Oper → Prop
  | _, [] => True
  | i, o :: l => ((∀ j, (o.after.toList.any fun e => Region.binds .any e && e.on == j) = true → PP j (us.getD j undef) w) → OpGood P ops PP own i o A w) ∧ AllGood P ops PP own A us w (i + 1) l
theorem AllGood.at {P : Program} {ops : Array Oper} {PP : Nat → Value → World → Prop} {own : Nat → Value → Option Nat} {A : Act} {us : List Value} {w : World} : ∀ {k : Nat} {l : List Oper}, AllGood P ops PP own A us w k l → ∀ i o, l[i]? = some o →
    (∀ j, (o.after.toList.any fun e => Region.binds .any e && e.on == j) = true → PP j (us.getD j undef) w) → OpGood P ops PP own (k + i) o A w
  | _, [], _, i, o, h, _ => by simp at h
  | k, x :: l, hg, i, o, hi, hd => by
    cases i with
    | zero =>
      simp only [List.getElem?_cons_zero, Option.some.injEq] at hi
      subst hi
      exact hg.1 hd
    | succ i =>
      have := AllGood.at hg.2 i o (by simpa using hi) hd
      rw [show k + (i + 1) = k + 1 + i by omega]
      exact this
/-- what holds of all values, one after the other -/
def AllHold (PP : Nat → Value → World → Prop) (w : World) : Nat → List Value → Prop
  | _, [] => True
  | i, u :: us => PP i u w ∧ AllHold PP w (i + 1) us
theorem AllHold.of {PP : Nat → Value → World → Prop} {w : World} : ∀ {k : Nat} {us : List Value}, (∀ j, j < us.length → PP (k + j) (us.getD j undef) w) → AllHold PP w k us
  | _, [], _ => trivial
  | k, u :: us, h => ⟨h 0 (by simp), AllHold.of fun j hj => by
    have := h (j + 1) (by simpa using hj)
    rw [show k + 1 + j = k + (j + 1) by omega]
    exact this⟩

/-- **A drawn region walked once**: l1 in whatever order, then l2 in its order. -/
theorem wp_region_own {id : Nat} {a : Act} {w : World} {l : List Oper} (m : Nat) (C : World → Prop) (PP : Nat → Value → World → Prop) (own : Nat → Value → Option Nat) (hm : P.follows .mixedOrders = true) (hd : distinctB (l.take m) = true) (hB : tailB .any (l.take m).length l = true)
    (hC : ∀ w w', C w → Below w.heap.size w w' → C w') (hst : ∀ j u w w', Below w.heap.size w w' → PP j u w → PP j u w') (h0 : C { w with drawn := w.drawn + 1 }) (hown : ∀ j u w, PP j u w → ∀ b, own j u = some b → b < w.heap.size) (hund : ∀ j, own j undef = none)
    (hops : ∀ (us : List Value) (w : World), us.length = (l.take m).length → C w → AllGood P l.toArray PP own (fillA (l.take m) us a) us w 0 (l.take m))
    (hend : ∀ (us : List Value) (w : World), us.length = (l.take m).length → C w → AllHold PP w 0 us → (∀ i j b, i < us.length → j < us.length → i ≠ j → own i (us.getD i undef) = some b → own j (us.getD j undef) ≠ some b) → wpList P l.toArray Q (l.drop m) (fillA (l.take m) us a) w) :
    (Code.region id l.toArray true).wp P Q a w := by
  have hl : l.take m ++ l.drop m = l := List.take_append_drop m l
  obtain ⟨us, hus, hf⟩ := fillA_same (l.take m) a
  refine wp_region_any hm ?_
  have := wpAny_inv (P := P) (Q := Q) (md := .any) (l1 := l.take m) (l2 := l.drop m) (a := a) (C := C) (PP := PP) (own := own) hown hund hd (by rw [hl]; exact hB) hC hst (by rw [hl]; exact fun us w h1 h2 i o h3 h4 => by have := (hops us w h1 h2).at i o h3 h4; rwa [Nat.zero_add] at this)
    (by rw [hl]; exact fun us w h1 h2 h3 h4 => hend us w h1 h2 (AllHold.of fun j hj => by rw [Nat.zero_add]; exact h3 j (by rw [← h1]; exact hj)) (fun i j b hi hj => h4 i j b (by rw [← h1]; exact hi) (by rw [← h1]; exact hj))) l.length (Array.replicate l.length false) us
    { w with drawn := w.drawn + 1 } (by rw [Array.size_replicate, ← List.length_append, hl]) (by simp) hus h0 (fun j hj hjl => by
      have : j < l.length := by rw [List.length_take] at hj; omega
      rw [getD_lt (by simpa using this)] at hjl
      simp at hjl) (fun j _ hj => by
      have : j < l.length := by rw [← List.length_append, hl] at hj; exact hj
      rw [getD_lt (by simpa using this)]
      simp) (fun q o hqo hql => by
      have : q < l.length := by rw [hl] at hqo; exact (List.getElem?_eq_some_iff.1 hqo).1
      rw [getD_lt (by simpa using this)] at hql
      simp at hql) (fun i _ _ hi _ _ hil => by
      have : i < l.length := by rw [List.length_take] at hi; omega
      rw [getD_lt (by simpa using this)] at hil
      simp at hil)
  rw [hf, hl] at this
  simpa using this
/-- .. where no two blocks need be told apart -/
theorem wp_region_inv {id : Nat} {a : Act} {w : World} {l : List Oper} (m : Nat) (C : World → Prop) (PP : Nat → Value → World → Prop) (hm : P.follows .mixedOrders = true) (hd : distinctB (l.take m) = true) (hB : tailB .any (l.take m).length l = true)
    (hC : ∀ w w', C w → Below w.heap.size w w' → C w') (hst : ∀ j u w w', Below w.heap.size w w' → PP j u w → PP j u w') (h0 : C { w with drawn := w.drawn + 1 })
    (hops : ∀ (us : List Value) (w : World), us.length = (l.take m).length → C w → AllGood P l.toArray PP noOwn (fillA (l.take m) us a) us w 0 (l.take m))
    (hend : ∀ (us : List Value) (w : World), us.length = (l.take m).length → C w → AllHold PP w 0 us → wpList P l.toArray Q (l.drop m) (fillA (l.take m) us a) w) :
    (Code.region id l.toArray true).wp P Q a w :=
  wp_region_own m C PP noOwn hm hd hB hC hst h0 (fun _ _ _ _ b hb => by cases hb) (fun _ => rfl) hops (fun us w h1 h2 h3 _ => hend us w h1 h2 h3)
end

end Go.Proofs.Ytjihboddejaelaa

/-
  page.Used, page.Seal.
-/
namespace Go.Proofs.Ytjihboddejaelaa
set_option linter.unusedVariables false
set_option linter.unusedSimpArgs false
open Go.RowKit
open Go.BigFrame
set_option linter.unusedVariables false
attribute [local go_sem] OpGood goodUpon fillA Act.put

/-- the slice value '.slice A n c' reads as these texts -/
def SS (w : World) (A : Option Addr) (n : Nat) (l : List ByteArray) : Prop :=
  l.length = n ∧ (0 < n → ∃ b off, A = some ⟨b, off, none⟩ ∧ b < w.heap.size ∧ ∀ i v, l[i]? = some v → w.cell? ⟨b, off + i, none⟩ = some (.string v))
theorem SS.keep {w w' : World} {A : Option Addr} {n : Nat} {l : List ByteArray} (h : SS w A n l) (hb : Below w.heap.size w w') : SS w' A n l :=
  ⟨h.1, fun hn => by
    obtain ⟨b, off, hA, hl, hc⟩ := h.2 hn
    exact ⟨b, off, hA, Nat.lt_of_lt_of_le hl hb.size, fun i v hv => (hb.cell (p := ⟨b, off + i, none⟩) hl).trans (hc i v hv)⟩⟩

set_option maxHeartbeats 400000 in
theorem page_Used (A : Option Addr) (n c : Nat) (cs : List ByteArray) (w : World) (h : SS w A n cs) (hn : n ≤ 4194304) (hu : usedN cs ≤ 8388608) :
    Calls Try.prog 113 #[.slice A n c] w fun e w' => e = .returned (.int .i64 (usedN cs : Nat)) ∧ w = w' := by
  go_enter Try.func113, Try.ntmps113
  go_wp2_with fail
  go_loop [3, 8] (fun v3 v8 => ∃ i : Nat, i ≤ n ∧ v8 = .int .i64 i ∧ v3 = .int .i64 (usedN (cs.take i) : Nat)) (fun _ v8 => n - (intOf v8).toNat)
  case atStart => exact ⟨0, Nat.zero_le _, rfl, rfl⟩
  case round =>
    obtain ⟨i, hi, rfl, rfl⟩ := hrel
    by_cases h1 : i < n
    · obtain ⟨b, off, rfl, hb, hc⟩ := h.2 (by omega)
      have hl : i < cs.length := by rw [h.1]; exact h1
      have c0 := hc i cs[i] (by simp [hl])
      have E := Lib.hid (usedN_take cs hl)
      have x1 := usedN_take_le cs (i + 1)
      rw [E.out] at x1
      obtain ⟨x, hx⟩ : ∃ x, usedN (cs.take i) = x := ⟨_, rfl⟩
      rw [hx] at x1
      have HX := Lib.hid hx
      rw [hx]
      clear hx hc
      have x2 : x ≤ 8388608 := by omega
      have x3 : cs[i].size ≤ 8388608 := by omega
      go_wp2_with fail
      go_round
      case rel => exact ⟨i + 1, by omega, by simp, by rw [E.out, HX.out]; simp⟩
      case measure => simp [intOf]; omega
    · obtain rfl : i = n := by omega
      have E := Lib.hid (show ((usedN (cs.take i) : Nat) : Int) = (usedN cs : Nat) by rw [← h.1, List.take_length])
      go_wp2_with fail
      go_ret
      exact ⟨ret_int E.out, rfl⟩

theorem u8s_splice (L : List UInt8) (o : Nat) (x : List UInt8) : splice (u8s L) o (u8s x) = u8s (splice L o x) := by
  simp [splice, u8s, List.map_take, List.map_drop]
theorem wpList_copy_BS {P : Program} {w : World} {ops : Array Oper} {rest : List Oper} {o : Oper} {a : Act} {Q : Exit → Act → World → Prop} (hgd : o.guard = none) (d s : Operand) (dT sT : TypeId)
    (ho : o.op = .call { callee := .builtin .copy, args := #[d, s], argTypes := #[dT, sT] }) (elem : TypeId) (hu : P.underlying dT = some (.slice elem)) (hsz : (P.info? elem).map (·.size) = some 1)
    (dp : Option Addr) (dLen dCap : Nat) (A : Option Addr) (m c : Nat) (hd : a.eval d = .slice dp dLen dCap) (hs : a.eval s = .slice A m c) (l : List UInt8) (hl : BS w A m l)
    (g off : Nat) (cur : List UInt8) (t : TypeId) (hg : Has w g t (u8s cur).toArray) (hdp : 0 < m → dp = some ⟨g, off, none⟩) (hle : m ≤ dLen) (hfit : off + m ≤ cur.length)
    (h : ∀ w', Has w' g t (u8s (splice cur off l)).toArray → Below g w w' → wpList P ops Q rest (a.put o.dst (goInt m)) w') : wpList P ops Q (o :: rest) a w := by
  have hlen : (u8s l).length = m := by rw [u8s_len, hl.1]
  refine wpList_copy_splice hgd d s dT sT ho elem hu hsz dp A dLen dCap m c hd hs g off (u8s cur) t hg (u8s l) (by rw [hlen]; exact (Nat.min_eq_left hle).symm) (fun h0 => ?_) (by rw [hlen, u8s_len]; exact hfit) u8s_one g w (Below.refl _ _) (Nat.le_refl _) (fun w' hw hb => ?_)
  · rw [hlen] at h0
    obtain ⟨b, of, hA, hbl, hc⟩ := hl.2 h0
    refine ⟨hdp h0, ⟨b, of, none⟩, hA, fun j v hj => ?_⟩
    rw [addr_add]
    rw [u8s_get] at hj
    obtain ⟨x, hx, rfl⟩ := Option.map_eq_some_iff.1 hj
    exact hc j x hx
  · have hw' := hw.out
    rw [u8s_splice] at hw'
    rw [hlen]
    exact h w' hw' hb
theorem run_copy_str {P : Program} {w : World} (dT sT ty : TypeId) (elem : TypeId) (hu : P.underlying dT = some (.slice elem)) (hsz : (P.info? elem).map (·.size) = some 1)
    (dp : Option Addr) (dLen dCap : Nat) (x : ByteArray) (g off : Nat) (cur : List UInt8) (t : TypeId) (hg : Has w g t (u8s cur).toArray) (hdp : 0 < x.size → dp = some ⟨g, off, none⟩) (hle : x.size ≤ dLen) (hfit : off + x.size ≤ cur.length) :
    ∃ w', (Builtin.copy_ #[dT, sT] ty #[.slice dp dLen dCap, .string x]).run P w = .ok (goInt x.size) w' ∧ Has w' g t (u8s (splice cur off x.data.toList)).toArray ∧ Below g w w' := by
  have hxl : x.data.toList.length = x.size := by simp
  rcases Nat.eq_zero_or_pos x.size with h0 | h0
  · have hr := Lib.run_copy_empty_string (P := P) w dT sT ty elem dp dLen dCap x hu (by rw [hsz]; rfl) h0
    have hx : x.data.toList = [] := List.eq_nil_of_length_eq_zero (by rw [hxl]; exact h0)
    exact ⟨w, by rw [h0]; exact hr, by rw [hx, splice_zero]; exact hg, Below.refl _ _⟩
  · obtain rfl := hdp h0
    have hr := Lib.run_copy_row_string (P := P) w dT sT ty elem g off dLen dCap x _ t hu hsz hg hle (by simpa [u8s_len] using hfit)
    refine ⟨_, hr, ?_, below_setRow (Below.refl g w) (Nat.le_refl _) _⟩
    have he : ((u8s cur).toArray.toList.take off ++ Lib.byteCells x.data.toList ++ (u8s cur).toArray.toList.drop (off + x.size)) = u8s (splice cur off x.data.toList) := by
      rw [← u8s_splice, splice, show (Lib.byteCells x.data.toList) = u8s x.data.toList from rfl, u8s_len, hxl]
      simp
    rw [he]
    exact setRow_heap w g _ _ t (0, 0) hg
theorem slice77 (g o : Nat) (h : o < 1024) (w : World) : (Instr.sliceAt 154 (.pointer (some ⟨g, 0, none⟩)) (some (.int .i64 o)) none none).run Try.prog w = .ok (.slice (some ⟨g, o, none⟩) (1024 - o) (1024 - o)) w := by
  have h1 : (0 : Int) ≤ (o : Int) := by omega
  have h2 : (o : Int) ≤ 1024 := by omega
  have h3 : ¬ 1024 = o := by omega
  go_simp
theorem slice77_end (g : Nat) (w : World) : (Instr.sliceAt 154 (.pointer (some ⟨g, 0, none⟩)) (some (.int .i64 1024)) none none).run Try.prog w = .ok (.slice (some ⟨g, 0, none⟩) 0 0) w := by
  go_simp
theorem slice77_any (g o m : Nat) (h : o + m ≤ 1024) : ∃ dp k, (∀ w, (Instr.sliceAt 154 (.pointer (some ⟨g, 0, none⟩)) (some (.int .i64 o)) none none).run Try.prog w = .ok (.slice dp k k) w) ∧ (0 < m → dp = some ⟨g, o, none⟩) ∧ m ≤ k := by
  by_cases h1 : o < 1024
  · exact ⟨_, _, slice77 g o h1, fun _ => rfl, by omega⟩
  · obtain rfl : o = 1024 := by omega
    exact ⟨_, _, slice77_end g, fun h => by omega, by omega⟩

theorem BS.of_drop {w : World} {g : Nat} {t : TypeId} {L m : List UInt8} {n : Nat} (h : Has w g t (u8s L).toArray) (o : Nat) (hn : L.length = o + n) (hm : L.drop o = m) : BS w (some ⟨g, o, none⟩) n m := by
  subst hm
  refine ⟨by rw [List.length_drop]; omega, fun _ => ⟨g, o, rfl, h.lt, fun i v hv => ?_⟩⟩
  rw [h.cell]
  rw [List.getElem?_drop] at hv
  simp [u8s_get, hv]
/-- values that are known, then one of which R holds -/
def eqP : List Value → (Value → World → Prop) → Nat → Value → World → Prop
  | [], R, 0, u, w => R u w
  | [], _, _ + 1, _, _ => True
  | v :: _, _, 0, u, _ => u = v
  | _ :: vs, R, j + 1, u, w => eqP vs R j u w
theorem eqP_stable {R : Value → World → Prop} (hR : ∀ u (w w' : World), Below w.heap.size w w' → R u w → R u w') : ∀ (vs : List Value) j u (w w' : World), Below w.heap.size w w' → eqP vs R j u w → eqP vs R j u w'
  | [], 0, u, w, w', hb, h => hR u w w' hb h
  | [], _ + 1, _, _, _, _, h => h
  | _ :: _, 0, _, _, _, _, h => h
  | _ :: vs, j + 1, u, w, w', hb, h => eqP_stable hR vs j u w w' hb h
/-- a slice of m bytes that reads as l -/
def BV (m : Nat) (l : List UInt8) (u : Value) (w : World) : Prop := ∃ A c, u = .slice A m c ∧ BS w A m l
theorem BV_stable (m : Nat) (l : List UInt8) : ∀ u (w w' : World), Below w.heap.size w w' → BV m l u w → BV m l u w' := fun _ _ _ hb ⟨A, c, e, h⟩ => ⟨A, c, e, h.keep hb⟩
theorem page_twoV (n : Nat) (hn : n ≤ 9223372036854775807) (w : World) : Calls Try.prog 114 #[.int .i64 n] w fun e w' => ∃ u, e = .returned u ∧ Below w.heap.size w w' ∧ BV 2 (beK n 2) u w' :=
  (page_two n hn w).mono fun e w' ⟨g, he, hh, hb, _⟩ => ⟨_, he, hb, _, _, rfl, by have := BS.of_has hh; rwa [beK_len] at this⟩
theorem page_fourV (n : Nat) (hn : n ≤ 4294967295) (w : World) : Calls Try.prog 115 #[.int .i64 n] w fun e w' => ∃ u, e = .returned u ∧ Below w.heap.size w w' ∧ BV 4 (beK n 4) u w' :=
  (page_four n hn w).mono fun e w' ⟨A, c, he, hh, hb⟩ => ⟨_, he, hb, A, c, by rw [beK_len], by rwa [beK_len] at hh⟩

theorem sizeByte : (Try.prog.info? 5).map (·.size) = some 1 := by kernel_rfl
theorem u8s_set (l : List UInt8) (i : Nat) (b : UInt8) : (u8s l).toArray.setIfInBounds i (u8v b) = (u8s (l.set i b)).toArray := by simp [u8s, List.map_set]
theorem u8s_set0 (K : Int) (h0 : 0 ≤ K) (h1 : K ≤ 255) : (u8s (List.replicate 1024 0)).toArray.setIfInBounds 4 (.int .u8 K) = (u8s ((List.replicate 1024 0).set 4 (UInt8.ofNat K.toNat))).toArray := by
  have e : Value.int .u8 K = u8v (UInt8.ofNat K.toNat) := by unfold u8v; rw [toNat_ofNat8]; congr 1; omega
  rw [e, u8s_set]
theorem zeros77 : Try.zeroCells154 = (u8s (List.replicate 1024 0)).toArray := by kernel_rfl

/-- what Seal answers -/
def sealS (K L : Int) (cs : List ByteArray) : ByteArray := if (K < 1 ∨ 5 < K ∨ L < 0 ∨ 2147483647 < L) ∨ 1012 < usedN cs then ⟨#[]⟩ else bsOf (sealL K.toNat L.toNat cs)
def sealE (K L : Int) (cs : List ByteArray) : Int := if K < 1 ∨ 5 < K ∨ L < 0 ∨ 2147483647 < L then 1 else if 1012 < usedN cs then 5 else 0

set_option maxRecDepth 100000 in
set_option maxHeartbeats 3200000 in
theorem page_Seal (K L : Int) (A : Option Addr) (n c : Nat) (cs : List ByteArray) (w : World) (h : SS w A n cs) (hn : n ≤ 4194304) (hu : usedN cs ≤ 8388608) :
    Calls Try.prog 87 #[.agg #[.int .i64 K, .int .i64 L, .slice A n c]] w fun e w' => e = .returned (.tuple #[.string (sealS K L cs), .int .i64 (sealE K L cs)]) ∧ Below w.heap.size w w' := by
  have hb0 := Lib.hid (show Below w.heap.size w (w.alloc (.cells #[.int .i64 K, .int .i64 L, .slice A n c] 135)) from (Below.refl _ _).alloc (Nat.le_refl _) _)
  by_cases hk : K < 1 ∨ 5 < K ∨ L < 0 ∨ 2147483647 < L
  · have ANS : Hid (Ending.returned (.tuple #[.string ⟨#[]⟩, .int .i64 1]) = .returned (.tuple #[.string (sealS K L cs), .int .i64 (sealE K L cs)])) := by
      show _ = _
      rw [sealS, sealE, if_pos (.inl hk), if_pos hk]
    have hk2 : K < 1 ∨ (1 ≤ K ∧ 5 < K) ∨ (1 ≤ K ∧ K ≤ 5 ∧ L < 0) ∨ (1 ≤ K ∧ K ≤ 5 ∧ 0 ≤ L ∧ 2147483647 < L) := by omega
    clear hk h
    rcases hk2 with k1 | ⟨k1, k2⟩ | ⟨k1, k2, k3⟩ | ⟨k1, k2, k3, k4⟩
    all_goals
      go_enter Try.func87, Try.ntmps87
      go_wp2_with fail
      go_ret2
      exact ⟨ANS.out, hb0.out⟩
  · have k1 : 1 ≤ K := by omega
    have k2 : K ≤ 5 := by omega
    have k3 : 0 ≤ L := by omega
    have k4 : L ≤ 2147483647 := by omega
    have U := Lib.hid (fun w1 (hw : Below w.heap.size w w1) => page_Used A n c cs w1 (h.keep hw) hn hu)
    have HH := Lib.hid h
    clear h hk
    by_cases hr : 1012 < usedN cs
    · have ANS : Hid (Ending.returned (.tuple #[.string ⟨#[]⟩, .int .i64 5]) = .returned (.tuple #[.string (sealS K L cs), .int .i64 (sealE K L cs)])) := by
        have q1 : ¬ (K < 1 ∨ 5 < K ∨ L < 0 ∨ 2147483647 < L) := by omega
        show _ = _
        rw [sealS, sealE, if_pos (.inr hr), if_neg q1, if_pos hr]
      go_enter Try.func87, Try.ntmps87
      go_wp2_with (go_at_call 113; refine (U.out _ hb0.out).mono ?_; rintro e w1 ⟨rfl, rfl⟩)
      go_ret2
      exact ⟨ANS.out, hb0.out⟩
    · go_enter Try.func87, Try.ntmps87
      go_upto_region 7 with (go_at_call 113; refine (U.out _ hb0.out).mono ?_; rintro e w1 ⟨rfl, rfl⟩)
      have HX := (Has.new w 135 #[.int .i64 K, .int .i64 L, .slice A n c]).alloc (.cells (Try.zeroCells154.setIfInBounds 4 (.int .u8 K)) 154)
      have HG := Has.new (w.alloc (.cells #[.int .i64 K, .int .i64 L, .slice A n c] 135)) 154 (Try.zeroCells154.setIfInBounds 4 (.int .u8 K))
      have hbel := hb0.out.alloc (by simp) (.cells (Try.zeroCells154.setIfInBounds 4 (.int .u8 K)) 154)
      simp only [World.size_alloc] at HG
      generalize ((w.alloc (.cells #[.int .i64 K, .int .i64 L, .slice A n c] 135)).alloc (.cells (Try.zeroCells154.setIfInBounds 4 (.int .u8 K)) 154)) = W at *
      rw [zeros77, u8s_set0 K (by omega) (by omega)] at HG
      refine wp_region_inv 5 (Cls (W)) (eqP [.slice (some ⟨w.heap.size + 1, 6, none⟩) 1018 1018, .pointer (some ⟨w.heap.size, 2, none⟩), .slice A n c, .int .i64 n] (BV 2 (beK n 2))) (by kernel_rfl) (by kernel_rfl) (by kernel_rfl) (fun _ _ hC hb => Cls.step hC hb) ?hst (Cls.start _) ?hops ?hend
      case hst => exact eqP_stable (BV_stable _ _) _
      case hops =>
        obtain ⟨a0, a1, a2⟩ := HX.cells3
        have z1 := HX.lt
        intro us wx hus hC
        obtain ⟨u0, u1, u2, u3, u4, rfl⟩ : ∃ u0 u1 u2 u3 u4, us = [u0, u1, u2, u3, u4] := by
          match us, hus with
          | [u0, u1, u2, u3, u4], _ => exact ⟨u0, u1, u2, u3, u4, rfl⟩
        clear hus
        simp only [fillA, Act.put, List.take_succ_cons, List.take_zero, List.setIfInBounds_toArray, List.set_cons_zero, List.set_cons_succ]
        refine ⟨fun h => ?_, fun h => ?_, fun h => ?_, fun h => ?_, fun h => ?_, trivial⟩
        · (clear h; refine good_plain rfl ?_; go_simp; exact ⟨Below.refl _ _, rfl⟩)
        · (clear h; refine good_plain rfl ?_; go_simp; exact ⟨Below.refl _ _, rfl⟩)
        · obtain rfl := h 1 rfl
          (clear h; refine good_plain rfl ?_; obtain ⟨hc, hf⟩ := hC.facts; go_simp; exact ⟨Below.refl _ _, rfl⟩)
        · obtain rfl := h 2 rfl
          (clear h; refine good_plain rfl ?_; go_simp; exact ⟨Below.refl _ _, rfl⟩)
        · obtain rfl := h 3 rfl
          clear h; refine good_plain rfl ?_; go_simp
          exact (page_twoV n (by omega) _)
      case hend =>
        intro us wx hus hC
        obtain ⟨u0, u1, u2, u3, u4, rfl⟩ : ∃ u0 u1 u2 u3 u4, us = [u0, u1, u2, u3, u4] := by
          match us, hus with
          | [u0, u1, u2, u3, u4], _ => exact ⟨u0, u1, u2, u3, u4, rfl⟩
        clear hus
        intro hall
        obtain ⟨h0, h1, h2, h3, h4, _⟩ := hall
        obtain rfl := h0
        obtain ⟨A4, c4, rfl, hB⟩ := h4
        have hHG := HG.belowS hC.bel
        have hHX := HX.belowS hC.bel
        have hbw := bel_step hbel hC.bel hbel.size
        clear h1 h2 h3 HG HX hbel
        simp only [fillA, Act.put, List.take_succ_cons, List.take_zero, List.setIfInBounds_toArray, List.set_cons_zero, List.set_cons_succ, List.drop_succ_cons, List.drop_zero]
        refine wpList_copy_BS rfl (.tmp 34) (.tmp 38) 81 81 rfl 5 Try.underlying81 sizeByte (some ⟨w.heap.size + 1, 6, none⟩) 1018 1018 A4 2 c4 rfl rfl _ hB (w.heap.size + 1) 6 _ _ hHG (fun _ => rfl) (by omega) (by simp) ?_
        intro w7 HG7 hb7
        have HX7 := hHX.below hb7 (by omega)
        have hbel7 : Below w.heap.size w w7 := hbw.trans (hb7.mono (by omega))
        clear hHG hHX hb7 hbw hC hB
        go_wp2_with fail
        have fourL := Lib.hid (fun w1 => page_fourV L.toNat (by omega) w1)
        have eL : ((L.toNat : Nat) : Int) = L := by omega
        rw [eL] at fourL
        refine wp_region_inv 4 (Cls (w7)) (eqP [.slice (some ⟨w.heap.size + 1, 8, none⟩) 1016 1016, .pointer (some ⟨w.heap.size, 1, none⟩), .int .i64 L] (BV 4 (beK L.toNat 4))) (by kernel_rfl) (by kernel_rfl) (by kernel_rfl) (fun _ _ hC hb => Cls.step hC hb) ?hst (Cls.start _) ?hops ?hend
        case hst => exact eqP_stable (BV_stable _ _) _
        case hops =>
          obtain ⟨a0, a1, a2⟩ := HX7.cells3
          have z1 := HX7.lt
          intro us wx hus hC
          obtain ⟨u0, u1, u2, u3, rfl⟩ : ∃ u0 u1 u2 u3, us = [u0, u1, u2, u3] := by
            match us, hus with
            | [u0, u1, u2, u3], _ => exact ⟨u0, u1, u2, u3, rfl⟩
          clear hus
          simp only [fillA, Act.put, List.take_succ_cons, List.take_zero, List.setIfInBounds_toArray, List.set_cons_zero, List.set_cons_succ]
          refine ⟨fun h => ?_, fun h => ?_, fun h => ?_, fun h => ?_, trivial⟩
          · (clear h; refine good_plain rfl ?_; go_simp; exact ⟨Below.refl _ _, rfl⟩)
          · (clear h; refine good_plain rfl ?_; go_simp; exact ⟨Below.refl _ _, rfl⟩)
          · obtain rfl := h 1 rfl
            (clear h; refine good_plain rfl ?_; obtain ⟨hc, hf⟩ := hC.facts; go_simp; exact ⟨Below.refl _ _, rfl⟩)
          · obtain rfl := h 2 rfl
            clear h; refine good_plain rfl ?_; go_simp
            exact fourL.out _
        case hend =>
          intro us wx hus hC
          obtain ⟨u0, u1, u2, u3, rfl⟩ : ∃ u0 u1 u2 u3, us = [u0, u1, u2, u3] := by
            match us, hus with
            | [u0, u1, u2, u3], _ => exact ⟨u0, u1, u2, u3, rfl⟩
          clear hus
          intro hall
          obtain ⟨h0, h1, h2, h3, _⟩ := hall
          obtain rfl := h0
          obtain ⟨A5, c5, rfl, hB⟩ := h3
          have hHG := HG7.belowS hC.bel
          have hHX := HX7.belowS hC.bel
          have hbw := bel_step hbel7 hC.bel hbel7.size
          clear h1 h2 HG7 HX7 hbel7 fourL eL
          simp only [fillA, Act.put, List.take_succ_cons, List.take_zero, List.setIfInBounds_toArray, List.set_cons_zero, List.set_cons_succ, List.drop_succ_cons, List.drop_zero]
          refine wpList_copy_BS rfl (.tmp 40) (.tmp 43) 81 81 rfl 5 Try.underlying81 sizeByte (some ⟨w.heap.size + 1, 8, none⟩) 1016 1016 A5 4 c5 rfl rfl _ hB (w.heap.size + 1) 8 _ _ hHG (fun _ => rfl) (by omega) (by rw [splice_len _ _ _ (by simp [beK_len])]; simp) ?_
          intro w8 HG8 hb8
          have HX8 := hHX.below hb8 (by omega)
          have hbel8 : Below w.heap.size w w8 := hbw.trans (hb8.mono (by omega))
          clear hHG hHX hb8 hbw hC hB
          rw [← HH.out.1, pageL_start K.toNat L.toNat cs] at HG8
          obtain ⟨a0, a1, a2⟩ := HX8.cells3
          have z1 := HX8.lt
          have HP0 := Lib.hid HG8; have HX0 := Lib.hid HX8; have HB0 := Lib.hid hbel8
          clear HG8 HX8 hbel8
          go_wp2_with fail
          clear a0 a1 a2 z1
          have hr2 : usedN cs ≤ 1012 := by omega
          have HR := Lib.hid hr2
          go_loopw [5, 48] (fun v5 v48 wr => ∃ i E : Nat, i ≤ n ∧ E = 1024 - bodyN (cs.take i) ∧ v48 = .int .i64 i ∧ v5 = .int .i64 E ∧ Has wr (w.heap.size + 1) 154 (u8s (pageL K.toNat L.toNat cs i)).toArray ∧ Has wr w.heap.size 135 #[.int .i64 K, .int .i64 L, .slice A n c] ∧ Below w.heap.size w wr) (fun _ v48 _ => n - (intOf v48).toNat)
          case atStart => exact ⟨0, 1024, Nat.zero_le _, rfl, rfl, rfl, HP0.out, HX0.out, HB0.out⟩
          case round =>
            clear HP0 HX0 HB0
            obtain ⟨i, E, hi, hE, rfl, rfl, HG, HX, hbel⟩ := hrel
            have HG0 := Lib.hid HG; have HX0 := Lib.hid HX; have HB0 := Lib.hid hbel
            clear HG HX hbel
            by_cases h1 : i < n
            · have hl : i < cs.length := by rw [HH.out.1]; exact h1
              obtain ⟨b, off, rfl, hbl, hc⟩ := HH.out.2 (by omega)
              have c0 := hc i cs[i] (by simp [hl])
              obtain ⟨wc, wf⟩ := bcell HB0.out
              have c1 : wr.cell? ⟨b, off + i, none⟩ = some (.string cs[i]) := (wc _ _ hbl).trans c0
              have z1 : b < wr.heap.size := by have := HB0.out.size; omega
              have b1 := body_le HR.out (i + 1) (by omega)
              have b2 := bodyN_take cs hl
              obtain ⟨E', hE'⟩ : ∃ E' : Nat, E' = 1024 - bodyN (cs.take (i + 1)) := ⟨_, rfl⟩
              obtain ⟨o1, ho1⟩ : ∃ o1 : Nat, o1 = 12 + 2 * i := ⟨_, rfl⟩
              have e1 : (12 : Int) + 2 * (i : Int) = (o1 : Int) := by omega
              have e2 : (E : Int) - (2 + (cs[i].size : Int)) = (E' : Int) := by omega
              have m1 : o1 ≤ 1022 := by omega
              have m2 : E' ≤ 1022 := by omega
              have m3 : cs[i].size ≤ 1012 := by omega
              have m4 : E' + 2 + cs[i].size ≤ 1024 := by omega
              have m5 : E ≤ 1024 := by omega
              have STEP := Lib.hid (pageL_step (k := K.toNat) (l := L.toNat) HR.out hl)
              have HE' := Lib.hid hE'; have HO1 := Lib.hid ho1
              have w1 : IntKind.i64.wrap (2 * (i : Int)) = 2 * (i : Int) := IntWalk.i64_in _ ⟨by omega, by omega⟩
              have w2 : IntKind.i64.wrap (o1 : Int) = (o1 : Int) := IntWalk.i64_in _ ⟨by omega, by omega⟩
              obtain ⟨E2, hE2⟩ : ∃ E2 : Nat, E2 = E' + 2 := ⟨_, rfl⟩
              have e3 : (E' : Int) + 2 = (E2 : Int) := by omega
              have HE2 := Lib.hid hE2
              have s1 := slice77 (w.heap.size + 1) o1 (by omega)
              have s2 := slice77 (w.heap.size + 1) E' (by omega)
              obtain ⟨dp, k3, s3, hdp, hk3⟩ := slice77_any (w.heap.size + 1) E2 cs[i].size (by omega)
              clear wc wf c0 hc b1 b2 hE hE' ho1 hE2
              go_wp2_with fail
              have twoE := Lib.hid (fun w1 => page_twoV E' (by omega) w1)
              have twoC := Lib.hid (fun w1 => page_twoV cs[i].size (by omega) w1)
              refine wp_region_inv 6 (Cls (wr)) (eqP [.int .i64 i, .int .i64 (2 * (i : Int)), .int .i64 o1, .slice (some ⟨w.heap.size + 1, o1, none⟩) (1024 - o1) (1024 - o1), .int .i64 E'] (BV 2 (beK E' 2))) (by kernel_rfl) (by kernel_rfl) (by kernel_rfl) (fun _ _ hC hb => Cls.step hC hb) ?hst (Cls.start _) ?hops ?hend
              case hst => exact eqP_stable (BV_stable _ _) _
              case hops =>
                intro us wx hus hC
                obtain ⟨u0, u1, u2, u3, u4, u5, rfl⟩ : ∃ u0 u1 u2 u3 u4 u5, us = [u0, u1, u2, u3, u4, u5] := by
                  match us, hus with
                  | [u0, u1, u2, u3, u4, u5], _ => exact ⟨u0, u1, u2, u3, u4, u5, rfl⟩
                clear hus
                simp only [fillA, Act.put, List.take_succ_cons, List.take_zero, List.setIfInBounds_toArray, List.set_cons_zero, List.set_cons_succ]
                refine ⟨fun h => ?_, fun h => ?_, fun h => ?_, fun h => ?_, fun h => ?_, fun h => ?_, trivial⟩
                · (clear h; refine good_plain rfl ?_; go_simp; exact ⟨Below.refl _ _, rfl⟩)
                · obtain rfl := h 0 rfl
                  (clear h; refine good_plain rfl ?_; go_simp; exact ⟨Below.refl _ _, rfl⟩)
                · obtain rfl := h 1 rfl
                  (clear h; refine good_plain rfl ?_; go_simp; exact ⟨Below.refl _ _, rfl⟩)
                · obtain rfl := h 2 rfl
                  (clear h; refine good_plain rfl ?_; go_simp; exact ⟨Below.refl _ _, rfl⟩)
                · (clear h; refine good_plain rfl ?_; go_simp; exact ⟨Below.refl _ _, rfl⟩)
                · obtain rfl := h 4 rfl
                  clear h; refine good_plain rfl ?_; go_simp
                  exact twoE.out _
              case hend =>
                intro us wx hus hC
                obtain ⟨u0, u1, u2, u3, u4, u5, rfl⟩ : ∃ u0 u1 u2 u3 u4 u5, us = [u0, u1, u2, u3, u4, u5] := by
                  match us, hus with
                  | [u0, u1, u2, u3, u4, u5], _ => exact ⟨u0, u1, u2, u3, u4, u5, rfl⟩
                clear hus
                intro hall
                obtain ⟨h0, h1, h2, h3, h4, h5, _⟩ := hall
                obtain rfl := h3
                obtain ⟨A6, c6, rfl, hB⟩ := h5
                have hHG := HG0.out.belowS hC.bel
                have hHX := HX0.out.belowS hC.bel
                have hbw := bel_step HB0.out hC.bel HB0.out.size
                clear h0 h1 h2 h4 HG0 HX0 HB0 twoE
                simp only [fillA, Act.put, List.take_succ_cons, List.take_zero, List.setIfInBounds_toArray, List.set_cons_zero, List.set_cons_succ, List.drop_succ_cons, List.drop_zero]
                refine wpList_copy_BS rfl (.tmp 61) (.tmp 63) 81 81 rfl 5 Try.underlying81 sizeByte (some ⟨w.heap.size + 1, o1, none⟩) (1024 - o1) (1024 - o1) A6 2 c6 rfl rfl _ hB (w.heap.size + 1) o1 _ _ hHG (fun _ => rfl) (by omega) (by rw [pageL_len HR.out (by omega)]; omega) ?_
                intro w9 HG9 hb9
                have HX9 := Lib.hid (hHX.below hb9 (by omega))
                have HB9 := Lib.hid (show Below w.heap.size w w9 from hbw.trans (hb9.mono (by omega)))
                have HP9 := Lib.hid HG9
                clear hHG hHX hb9 hbw hC hB HG9
                go_wp2_with fail
                refine wp_region_inv 5 (Cls (w9)) (eqP [.int .i64 E', .slice (some ⟨w.heap.size + 1, E', none⟩) (1024 - E') (1024 - E'), .string cs[i], .int .i64 (cs[i].size : Nat)] (BV 2 (beK cs[i].size 2))) (by kernel_rfl) (by kernel_rfl) (by kernel_rfl) (fun _ _ hC hb => Cls.step hC hb) ?hst (Cls.start _) ?hops ?hend
                case hst => exact eqP_stable (BV_stable _ _) _
                case hops =>
                  intro us wx hus hC
                  obtain ⟨u0, u1, u2, u3, u4, rfl⟩ : ∃ u0 u1 u2 u3 u4, us = [u0, u1, u2, u3, u4] := by
                    match us, hus with
                    | [u0, u1, u2, u3, u4], _ => exact ⟨u0, u1, u2, u3, u4, rfl⟩
                  clear hus
                  simp only [fillA, Act.put, List.take_succ_cons, List.take_zero, List.setIfInBounds_toArray, List.set_cons_zero, List.set_cons_succ]
                  refine ⟨fun h => ?_, fun h => ?_, fun h => ?_, fun h => ?_, fun h => ?_, trivial⟩
                  · (clear h; refine good_plain rfl ?_; go_simp; exact ⟨Below.refl _ _, rfl⟩)
                  · obtain rfl := h 0 rfl
                    (clear h; refine good_plain rfl ?_; go_simp; exact ⟨Below.refl _ _, rfl⟩)
                  · (clear h; refine good_plain rfl ?_; go_simp; exact ⟨Below.refl _ _, rfl⟩)
                  · obtain rfl := h 2 rfl
                    (clear h; refine good_plain rfl ?_; go_simp; exact ⟨Below.refl _ _, rfl⟩)
                  · obtain rfl := h 3 rfl
                    clear h; refine good_plain rfl ?_; go_simp
                    exact twoC.out _
                case hend =>
                  intro us wx hus hC
                  obtain ⟨u0, u1, u2, u3, u4, rfl⟩ : ∃ u0 u1 u2 u3 u4, us = [u0, u1, u2, u3, u4] := by
                    match us, hus with
                    | [u0, u1, u2, u3, u4], _ => exact ⟨u0, u1, u2, u3, u4, rfl⟩
                  clear hus
                  intro hall
                  obtain ⟨h0, h1, h2, h3, h4, _⟩ := hall
                  obtain rfl := h1
                  obtain ⟨A7, c7, rfl, hB⟩ := h4
                  have hHG := HP9.out.belowS hC.bel
                  have hHX := HX9.out.belowS hC.bel
                  have hbw := bel_step HB9.out hC.bel HB9.out.size
                  clear h0 h2 h3 HP9 HX9 HB9 twoC
                  simp only [fillA, Act.put, List.take_succ_cons, List.take_zero, List.setIfInBounds_toArray, List.set_cons_zero, List.set_cons_succ, List.drop_succ_cons, List.drop_zero]
                  refine wpList_copy_BS rfl (.tmp 66) (.tmp 69) 81 81 rfl 5 Try.underlying81 sizeByte (some ⟨w.heap.size + 1, E', none⟩) (1024 - E') (1024 - E') A7 2 c7 rfl rfl _ hB (w.heap.size + 1) E' _ _ hHG (fun _ => rfl) (by omega) (by rw [splice_len _ _ _ (by rw [beK_len, pageL_len HR.out (by omega)]; omega), pageL_len HR.out (by omega)]; omega) ?_
                  intro w10 HG10 hb10
                  have HX10 := Lib.hid (hHX.below hb10 (by omega))
                  have HB10 := Lib.hid (show Below w.heap.size w w10 from hbw.trans (hb10.mono (by omega)))
                  have HP10 := Lib.hid HG10
                  clear hHG hHX hb10 hbw hC hB HG10
                  obtain ⟨w11, hcp, HG11, hb11⟩ := run_copy_str (P := Try.prog) (w := w10) 81 9 3 5 Try.underlying81 sizeByte dp k3 k3 cs[i] (w.heap.size + 1) E2 _ _ HP10.out hdp hk3 (by rw [splice_len _ _ _ (by rw [beK_len, splice_len _ _ _ (by rw [beK_len, pageL_len HR.out (by omega)]; omega), pageL_len HR.out (by omega)]; omega), splice_len _ _ _ (by rw [beK_len, pageL_len HR.out (by omega)]; omega), pageL_len HR.out (by omega)]; omega)
                  have HX11 := Lib.hid (HX10.out.below hb11 (by omega))
                  have HB11 := Lib.hid (show Below w.heap.size w w11 from HB10.out.trans (hb11.mono (by omega)))
                  have HP11 := Lib.hid HG11
                  clear HX10 HB10 HP10 hb11 HG11
                  go_wp2_with fail
                  have ST := STEP.out
                  rw [← HO1.out, ← HE'.out, ← HE2.out] at ST
                  rw [ST] at HP11
                  go_roundw
                  case rel => exact ⟨i + 1, E', by omega, HE'.out, by simp, rfl, HP11.out, HX11.out, HB11.out⟩
                  case measure => simp [intOf]; omega
            · obtain rfl : i = n := by omega
              obtain ⟨x, hx⟩ : ∃ x, crcN (midL K.toNat L.toNat cs cs.length) = x := ⟨_, rfl⟩
              have x1 := crcN_lt (midL K.toNat L.toNat cs cs.length)
              rw [hx] at x1
              have x2 : (0 : Int) ≤ (x : Int) := by omega
              have x3 : (x : Int) ≤ 4294967295 := by omega
              have x4 : IntKind.i64.wrap (x : Int) = (x : Int) := IntWalk.i64_in _ ⟨by omega, by omega⟩
              have HX := Lib.hid hx
              have HM : Hid (pageL K.toNat L.toNat cs i = [0, 0, 0, 0] ++ midL K.toNat L.toNat cs cs.length) := by rw [← HH.out.1]; exact rfl
              have LM := Lib.hid (midL_len (k := K.toNat) (l := L.toNat) HR.out (Nat.le_refl cs.length))
              have four := Lib.hid (fun w1 => page_fourV x (by omega) w1)
              have sum := Lib.hid (fun w1 => page_Sum (bsOf (midL K.toNat L.toNat cs cs.length)) w1 (by rw [bsOf_size, midL_len HR.out (Nat.le_refl _)]; omega))
              have sum2 : Hid (∀ w1, Calls Try.prog 116 #[.string (bsOf (midL K.toNat L.toNat cs cs.length))] w1 fun e w' => e = .returned (.int .u32 x) ∧ w1 = w') := fun w1 => by
                have := sum.out w1
                rw [bsOf_data, hx] at this; exact this
              clear hx sum x1
              obtain ⟨mid, hmid⟩ : ∃ m, midL K.toNat L.toNat cs cs.length = m := ⟨_, rfl⟩
              rw [hmid] at HM LM sum2
              have HMID := Lib.hid hmid
              clear hmid
              go_wp2_with fail
              refine wp_region_inv 6 (Cls (wr)) (eqP [.slice (some ⟨w.heap.size + 1, 0, none⟩) 1024 1024, .slice (some ⟨w.heap.size + 1, 4, none⟩) 1020 1020, .string (bsOf mid), .int .u32 x, .int .i64 x] (BV 4 (beK x 4))) (by kernel_rfl) (by kernel_rfl) (by kernel_rfl) (fun _ _ hC hb => Cls.step hC hb) ?hst (Cls.start _) ?hops ?hend
              case hst => exact eqP_stable (BV_stable _ _) _
              case hops =>
                intro us wx hus hC
                obtain ⟨u0, u1, u2, u3, u4, u5, rfl⟩ : ∃ u0 u1 u2 u3 u4 u5, us = [u0, u1, u2, u3, u4, u5] := by
                  match us, hus with
                  | [u0, u1, u2, u3, u4, u5], _ => exact ⟨u0, u1, u2, u3, u4, u5, rfl⟩
                clear hus
                simp only [fillA, Act.put, List.take_succ_cons, List.take_zero, List.setIfInBounds_toArray, List.set_cons_zero, List.set_cons_succ]
                refine ⟨fun h => ?_, fun h => ?_, fun h => ?_, fun h => ?_, fun h => ?_, fun h => ?_, trivial⟩
                · (clear h; refine good_plain rfl ?_; go_simp; exact ⟨Below.refl _ _, rfl⟩)
                · (clear h; refine good_plain rfl ?_; go_simp; exact ⟨Below.refl _ _, rfl⟩)
                · obtain rfl := h 1 rfl
                  have hg := HG0.out.belowS hC.bel
                  have hcv := conv_BS (c := 1020) (BS.of_drop hg 4 (by rw [HM.out, List.length_append, LM.out]; first | done | rfl) (by rw [HM.out]; first | done | rfl))
                  clear h; refine good_plain rfl ?_; go_simp; exact ⟨Below.refl _ _, rfl⟩
                · obtain rfl := h 2 rfl
                  clear h; refine good_plain rfl ?_; go_simp
                  refine (sum2.out _).mono ?_
                  rintro e w1 ⟨rfl, rfl⟩
                  exact ⟨_, rfl, Below.refl _ _, rfl⟩
                · obtain rfl := h 3 rfl
                  (clear h; refine good_plain rfl ?_; go_simp; exact ⟨Below.refl _ _, rfl⟩)
                · obtain rfl := h 4 rfl
                  clear h; refine good_plain rfl ?_; go_simp
                  exact four.out _
              case hend =>
                intro us wx hus hC
                obtain ⟨u0, u1, u2, u3, u4, u5, rfl⟩ : ∃ u0 u1 u2 u3 u4 u5, us = [u0, u1, u2, u3, u4, u5] := by
                  match us, hus with
                  | [u0, u1, u2, u3, u4, u5], _ => exact ⟨u0, u1, u2, u3, u4, u5, rfl⟩
                clear hus
                intro hall
                obtain ⟨h0, h1, h2, h3, h4, h5, _⟩ := hall
                obtain rfl := h0
                obtain ⟨A6, c6, rfl, hB⟩ := h5
                have hHG := HG0.out.belowS hC.bel
                have hbw := bel_step HB0.out hC.bel HB0.out.size
                clear h1 h2 h3 h4 HG0 HX0 HB0 four sum2
                simp only [fillA, Act.put, List.take_succ_cons, List.take_zero, List.setIfInBounds_toArray, List.set_cons_zero, List.set_cons_succ, List.drop_succ_cons, List.drop_zero]
                refine wpList_copy_BS rfl (.tmp 77) (.tmp 82) 81 81 rfl 5 Try.underlying81 sizeByte (some ⟨w.heap.size + 1, 0, none⟩) 1024 1024 A6 4 c6 rfl rfl _ hB (w.heap.size + 1) 0 _ _ hHG (fun _ => rfl) (by omega) (by rw [HM.out, List.length_append, LM.out]; decide) ?_
                intro w9 HG9 hb9
                have HB9 := Lib.hid (show Below w.heap.size w w9 from hbw.trans (hb9.mono (by omega)))
                have hseal := pageL_sum (k := K.toNat) (l := L.toNat) (cs := cs)
                rw [HX.out, HH.out.1] at hseal
                rw [hseal] at HG9
                have hcv := conv_BS (c := 1024) (BS.of_drop (n := 1024) HG9 0 (by rw [sealL_len HR.out]) rfl)
                have ANS : Hid (Ending.returned (.tuple #[.string (bsOf (sealL K.toNat L.toNat cs)), .int .i64 0]) = .returned (.tuple #[.string (sealS K L cs), .int .i64 (sealE K L cs)])) := by
                  have q1 : ¬ (K < 1 ∨ 5 < K ∨ L < 0 ∨ 2147483647 < L) := by omega
                  show _ = _
                  rw [sealS, sealE, if_neg (by omega), if_neg q1, if_neg (by omega)]
                rw [List.drop_zero] at hcv
                clear hHG hb9 hbw hC hB HG9 hseal
                go_wp2_with fail
                go_ret2
                exact ⟨ANS.out, HB9.out⟩

end Go.Proofs.Ytjihboddejaelaa

/-
  Predicates on the values of a drawn region, in a row; what a page is filled up with; a row of zeros that is made.
-/
namespace Go.Proofs.Ytjihboddejaelaa
set_option linter.unusedVariables false
set_option linter.unusedSimpArgs false
open Go.RowKit
open Go.BigFrame
set_option linter.unusedVariables false
attribute [local go_sem] OpGood goodUpon fillA Act.put

/-- what holds of each operation's value -/
def prP : List (Value → World → Prop) → Nat → Value → World → Prop
  | [], _, _, _ => True
  | R :: _, 0, u, w => R u w
  | _ :: Rs, j + 1, u, w => prP Rs j u w
def Stab (R : Value → World → Prop) : Prop := ∀ u (w w' : World), Below w.heap.size w w' → R u w → R u w'
def prS : List (Value → World → Prop) → Prop
  | [] => True
  | R :: Rs => Stab R ∧ prS Rs
theorem prP_stable : ∀ (Rs : List (Value → World → Prop)), prS Rs → ∀ j u (w w' : World), Below w.heap.size w w' → prP Rs j u w → prP Rs j u w'
  | [], _, _, _, _, _, _, h => h
  | _ :: _, hs, 0, u, w, w', hb, h => hs.1 u w w' hb h
  | _ :: Rs, hs, j + 1, u, w, w', hb, h => prP_stable Rs hs.2 j u w w' hb h
theorem stab_eq (v : Value) : Stab (fun u _ => u = v) := fun _ _ _ _ h => h

theorem sealRest {k l : Nat} {cs : List ByteArray} (h : usedN cs ≤ 1012) : headL k l cs.length ++ offsL cs cs.length ++ List.replicate (1012 - usedN cs) 0 ++ bodyL cs = midL k l cs cs.length := by
  have := used_body cs
  rw [midL, List.take_length, show 1012 - 2 * cs.length - bodyN cs = 1012 - usedN cs by omega]
theorem made_zero (n : Nat) (w : World) : BS (w.alloc (.cells (madeCells #[.int .u8 0] n) 5)) (some ⟨w.heap.size, 0, none⟩) n (List.replicate n 0) := by
  have e : madeCells #[Value.int .u8 0] n = (u8s (List.replicate n 0)).toArray := by
    apply Array.toList_inj.1
    rw [show (u8s (List.replicate n 0)).toArray.toList = List.replicate n (Value.int .u8 0) by simp [u8s, u8v]]
    refine List.eq_replicate_iff.2 ⟨by simp [size_madeCells], fun b hb => ?_⟩
    simp only [madeCells, Array.toList_map, List.mem_map] at hb
    obtain ⟨a, _, rfl⟩ := hb
    show (#[Value.int .u8 0] : Array Value)[a % 1]! = _
    rw [Nat.mod_one]; rfl
  rw [e]
  have := BS.of_has (Has.new w 5 (u8s (List.replicate n 0)).toArray)
  rwa [List.length_replicate] at this
theorem make_bytes (i : Nat) (hi : i ≤ 1012) (w : World) : (Instr.makeSlice 81 (.int .i64 i) (.int .i64 i)).run Try.prog w = .ok (.slice (some ⟨w.heap.size, 0, none⟩) i i) (w.alloc (.cells (madeCells #[.int .u8 0] i) 5)) := by
  obtain ⟨i0, hi0, hz0, hz1, hz2⟩ := info_parts infoByte
  have := run_make (P := Try.prog) w 81 5 i0 _ Try.underlying81 hi0 hz0 .i64 .i64 (i : Int) (i : Int) (by omega) (by omega) (by rw [hz2]; omega) (by omega)
  rw [hz1, show (Value.int .u8 0).cells = #[.int .u8 0] from rfl] at this
  simpa using this


end Go.Proofs.Ytjihboddejaelaa

/-
  at16, at32 of page; what is read out of a page's bytes.
-/
namespace Go.Proofs.Ytjihboddejaelaa
set_option linter.unusedVariables false
set_option linter.unusedSimpArgs false
open Go.RowKit
open Go.BigFrame
set_option linter.unusedVariables false
attribute [local go_sem] OpGood goodUpon fillA Act.put

def at16N (l : List UInt8) (o : Nat) : Nat := 256 * (l.getD o 0).toNat + (l.getD (o + 1) 0).toNat
def at32N (l : List UInt8) (o : Nat) : Nat := 65536 * at16N l o + at16N l (o + 2)
theorem at16N_lt (l : List UInt8) (o : Nat) : at16N l o < 65536 := by
  have h1 := byte_lt (l.getD o 0)
  have h2 := byte_lt (l.getD (o + 1) 0)
  unfold at16N; omega
theorem at32N_lt (l : List UInt8) (o : Nat) : at32N l o < 4294967296 := by
  have h1 := at16N_lt l o
  have h2 := at16N_lt l (o + 2)
  unfold at32N; omega
theorem getD_byte (s : ByteArray) (i : Nat) (h : i < s.size) : (s.data.toList.getD i 0) = s[i] := by
  rw [List.getD_eq_getElem?_getD, byte_at s i h]; rfl

theorem i64_or_nat (a b : Nat) (ha : a < 4611686018427387904) (hb : b < 4611686018427387904) : bits .or .i64 (a : Int) (b : Int) = ((a ||| b : Nat) : Int) := by
  have hx : a ||| b < 2 ^ 62 := Nat.or_lt_two_pow (by omega) (by omega)
  have h1 : (BitVec.ofInt 64 (a : Int)).toNat = a := by
    rw [BitVec.ofInt_natCast, BitVec.toNat_ofNat]; exact Nat.mod_eq_of_lt (by omega)
  have h2 : (BitVec.ofInt 64 (b : Int)).toNat = b := by
    rw [BitVec.ofInt_natCast, BitVec.toNat_ofNat]; exact Nat.mod_eq_of_lt (by omega)
  show IntKind.i64.wrap ((BitVec.ofInt 64 (a : Int) ||| BitVec.ofInt 64 (b : Int)).toNat : Int) = _
  rw [BitVec.toNat_or, h1, h2]
  exact IntWalk.i64_in _ ⟨by omega, by omega⟩
theorem or_256 (a b : Nat) (ha : a < 256) (hb : b < 256) : bits .or .i64 ((a : Int) * 256) (b : Int) = ((256 * a + b : Nat) : Int) := by
  rw [show ((a : Int) * 256) = ((256 * a : Nat) : Int) by omega, i64_or_nat _ _ (by omega) (by omega), nat_join 8 (256 * a) b (by omega) (by omega)]
theorem or_65536 (a b : Nat) (ha : a < 65536) (hb : b < 65536) : bits .or .i64 ((a : Int) * 65536) (b : Int) = ((65536 * a + b : Nat) : Int) := by
  rw [show ((a : Int) * 65536) = ((65536 * a : Nat) : Int) by omega, i64_or_nat _ _ (by omega) (by omega), nat_join 16 (65536 * a) b (by omega) (by omega)]
set_option maxHeartbeats 1600000 in
theorem page_at16 (s : ByteArray) (o : Nat) (ho : o + 2 ≤ s.size) (hs : s.size ≤ 1048576) (w : World) :
    Calls Try.prog 118 #[.string s, .int .i64 o] w fun e w' => e = .returned (.int .i64 (at16N s.data.toList o : Nat)) ∧ Below w.heap.size w w' := by
  have h1 : o < s.size := by omega
  have h2 : o + 1 < s.size := by omega
  have i1 : (o : Int) < (s.size : Int) := by omega
  have i2 : (o : Int) + 1 < (s.size : Int) := by omega
  have w1 : IntKind.i64.wrap ((o : Int) + 1) = (o : Int) + 1 := IntWalk.i64_in _ ⟨by omega, by omega⟩
  have w2 : ((o : Int) + 1).toNat = o + 1 := by omega
  have w3 : (0 : Int) ≤ (o : Int) + 1 := by omega
  have b1 := byte_lt s[o]
  have b2 := byte_lt s[o + 1]
  have E : bits .or .i64 (wrap64 (wrap64 (s[o].toNat : Int) * 256)) (wrap64 (s[o + 1].toNat : Int)) = ((at16N s.data.toList o : Nat) : Int) := by
    have e1 : wrap64 (s[o].toNat : Int) = (s[o].toNat : Int) := by unfold wrap64; omega
    have e2 : wrap64 (s[o + 1].toNat : Int) = (s[o + 1].toNat : Int) := by unfold wrap64; omega
    have e3 : wrap64 ((s[o].toNat : Int) * 256) = (s[o].toNat : Int) * 256 := by unfold wrap64; omega
    rw [e1, e2, e3, or_256 _ _ b1 b2, at16N, getD_byte s o h1, getD_byte s (o + 1) h2]
  have HE := Lib.hid E
  clear E b1 b2
  go_enter Try.func118, Try.ntmps118
  go_wp2_with fail
  refine wp_region_cls (w) (by kernel_rfl) (by kernel_rfl) (Cls.start _) ?_
  repeat
    first
      | go_big_quiet_skip
      | (go_big_quiet_want; (first | go_big_quiet_op | go_simp); first | go_big_quiet_on | (apply Exists.intro; refine ⟨fun w' hw' => ?_, ?_⟩; (· (first | (with_reducible exact rfl) | (fail) | (obtain ⟨hc, hf⟩ := hw'.facts; go_simp; first | done | (with_reducible exact rfl) | (with_reducible exact ⟨rfl, rfl⟩)))); go_big_quiet_on))
  refine wpQuiet_nil ?_
  intro wq hq
  go_wp2_with fail
  go_ret
  exact ⟨ret_int HE.out, hq.bel⟩

set_option maxHeartbeats 1600000 in
theorem page_at32 (s : ByteArray) (o : Nat) (ho : o + 4 ≤ s.size) (hs : s.size ≤ 1048576) (w : World) :
    Calls Try.prog 117 #[.string s, .int .i64 o] w fun e w' => e = .returned (.int .i64 (at32N s.data.toList o : Nat)) ∧ Below w.heap.size w w' := by
  have T1 := Lib.hid (fun w1 => page_at16 s o (by omega) hs w1)
  have t2 := (fun w1 => page_at16 s (o + 2) (by omega) hs w1)
  rw [show ((o + 2 : Nat) : Int) = (o : Int) + 2 by omega] at t2
  have T2 := Lib.hid t2
  clear t2
  have l1 := at16N_lt s.data.toList o
  have l2 := at16N_lt s.data.toList (o + 2)
  have E : bits .or .i64 ((at16N s.data.toList o : Int) * 65536) (at16N s.data.toList (o + 2) : Int) = ((at32N s.data.toList o : Nat) : Int) := by
    rw [or_65536 _ _ l1 l2, at32N]
  obtain ⟨x, hx⟩ : ∃ x, at16N s.data.toList o = x := ⟨_, rfl⟩
  obtain ⟨y, hy⟩ : ∃ y, at16N s.data.toList (o + 2) = y := ⟨_, rfl⟩
  rw [hx] at E T1 l1
  rw [hy] at E T2 l2
  have HE := Lib.hid E
  clear E hx hy
  go_enter Try.func117, Try.ntmps117
  go_wp2_with (first | (go_at_call 118; (with_reducible refine (T1.out _).mono ?_); rintro e w1 ⟨rfl, hb1⟩) | (go_at_call 118; (with_reducible refine (T2.out _).mono ?_); rintro e w2 ⟨rfl, hb2⟩))
  go_ret
  exact ⟨ret_int HE.out, bel_step hb1 hb2 hb1.size⟩

end Go.Proofs.Ytjihboddejaelaa

/-
  What Open reads out of bytes, in plain Lean: just those that Seal makes. No program in sight.
-/
namespace Go.Proofs.Ytjihboddejaelaa
set_option linter.unusedVariables false
set_option linter.unusedSimpArgs false
open Go.RowKit
set_option linter.unusedVariables false

/-- the cells of a page, as Open reads them -/
def readGo (s : ByteArray) : Nat → Option (List ByteArray)
  | 0 => some []
  | i + 1 => (readGo s i).bind fun cs =>
    if 1024 < at16N s.data.toList (12 + 2 * i) + 2 ∨ 1024 < at16N s.data.toList (12 + 2 * i) + 2 + at16N s.data.toList (at16N s.data.toList (12 + 2 * i)) then none
    else some (cs ++ [s.extract (at16N s.data.toList (12 + 2 * i) + 2) (at16N s.data.toList (12 + 2 * i) + 2 + at16N s.data.toList (at16N s.data.toList (12 + 2 * i)))])
abbrev Pg := Nat × Nat × List ByteArray
def fin (s : ByteArray) (k l : Nat) (cs : List ByteArray) : Option Pg := if sealE k l cs = 0 ∧ sealS k l cs = s then some (k, l, cs) else none
def openN (s : ByteArray) (n : Nat) : Option Pg := (readGo s n).bind fun cs => fin s (s.data.toList.getD 4 0).toNat (at32N s.data.toList 8) cs
def openP (s : ByteArray) : Option Pg := if s.size ≠ 1024 ∨ at32N s.data.toList 0 ≠ crcN (s.data.toList.drop 4) ∨ 1024 < 12 + 2 * at16N s.data.toList 6 then none else openN s (at16N s.data.toList 6)
def openR (s : ByteArray) : Option Pg := if s.size ≠ 1024 then none else openN s (min (at16N s.data.toList 6) 506)

def Valid (s : ByteArray) (p : Pg) : Prop := 1 ≤ p.1 ∧ p.1 ≤ 5 ∧ p.2.1 ≤ 2147483647 ∧ usedN p.2.2 ≤ 1012 ∧ bsOf (sealL p.1 p.2.1 p.2.2) = s
theorem sealE_zero {k l : Nat} {cs : List ByteArray} : sealE k l cs = 0 ↔ 1 ≤ k ∧ k ≤ 5 ∧ l ≤ 2147483647 ∧ usedN cs ≤ 1012 := by
  unfold sealE
  split
  · simp; omega
  · split
    · simp; omega
    · simp; omega
theorem sealS_valid {k l : Nat} {cs : List ByteArray} (h : 1 ≤ k ∧ k ≤ 5 ∧ l ≤ 2147483647 ∧ usedN cs ≤ 1012) : sealS k l cs = bsOf (sealL k l cs) := by
  unfold sealS
  rw [if_neg (by omega)]
  simp
theorem fin_some {s : ByteArray} {k l : Nat} {cs : List ByteArray} {p : Pg} : fin s k l cs = some p ↔ p = (k, l, cs) ∧ Valid s p := by
  unfold fin
  constructor
  · intro h
    split at h
    · rename_i hc
      injection h with h
      subst h
      have := sealE_zero.1 hc.1
      exact ⟨rfl, this.1, this.2.1, this.2.2.1, this.2.2.2, by rw [← sealS_valid this]; exact hc.2⟩
    · cases h
  · rintro ⟨rfl, h1, h2, h3, h4, h5⟩
    rw [if_pos ⟨sealE_zero.2 ⟨h1, h2, h3, h4⟩, by rw [sealS_valid ⟨h1, h2, h3, h4⟩]; exact h5⟩]

theorem getD_mid (a b : List UInt8) (x : UInt8) : (a ++ x :: b).getD a.length 0 = x := by
  rw [List.getD_eq_getElem?_getD, List.getElem?_append_right (Nat.le_refl _)]; simp
theorem at16_mid {a b : List UInt8} {x o : Nat} (ha : a.length = o) (hx : x < 65536) : at16N (a ++ (beK x 2 ++ b)) o = x := by
  subst ha
  have e1 : (a ++ (beK x 2 ++ b)).getD a.length 0 = UInt8.ofNat (x / 256) := by rw [beK_two]; exact getD_mid a _ _
  have e2 : (a ++ (beK x 2 ++ b)).getD (a.length + 1) 0 = UInt8.ofNat x := by
    rw [beK_two, show a ++ ([UInt8.ofNat (x / 256), UInt8.ofNat x] ++ b) = (a ++ [UInt8.ofNat (x / 256)]) ++ UInt8.ofNat x :: b by simp]
    have := getD_mid (a ++ [UInt8.ofNat (x / 256)]) b (UInt8.ofNat x)
    rw [List.length_append] at this
    exact this
  rw [at16N, e1, e2, UInt8.toNat_ofNat', UInt8.toNat_ofNat']
  omega
theorem at32_mid {a b : List UInt8} {x o : Nat} (ha : a.length = o) (hx : x < 4294967296) : at32N (a ++ (beK x 4 ++ b)) o = x := by
  have e : a ++ (beK x 4 ++ b) = a ++ (beK (x / 65536) 2 ++ (beK x 2 ++ b)) := by rw [beK_four, List.append_assoc]
  have h1 : at16N (a ++ (beK x 4 ++ b)) o = x / 65536 := by rw [e]; exact at16_mid ha (by omega)
  have h2 : at16N (a ++ (beK x 4 ++ b)) (o + 2) = x % 65536 := by
    rw [e, ← List.append_assoc]
    have h3 : beK x 2 = beK (x % 65536) 2 := by
      rw [beK_two, beK_two]
      congr 1
      · apply UInt8.toNat_inj.1; rw [UInt8.toNat_ofNat', UInt8.toNat_ofNat']; omega
      · congr 1; apply UInt8.toNat_inj.1; rw [UInt8.toNat_ofNat', UInt8.toNat_ofNat']; omega
    rw [h3]
    exact at16_mid (by rw [List.length_append, ha, beK_len]) (by omega)
  rw [at32N, h1, h2]; omega
theorem bodyL_append (a b : List ByteArray) : bodyL (a ++ b) = bodyL b ++ bodyL a := by
  induction a with
  | nil => simp [bodyL]
  | cons c a ih => simp [bodyL, ih]
theorem offsL_split (cs : List ByteArray) : ∀ {n i : Nat}, i < n → ∃ r, offsL cs n = offsL cs i ++ (beK (1024 - bodyN (cs.take (i + 1))) 2 ++ r)
  | n + 1, i, h => by
    by_cases hi : i = n
    · subst hi; exact ⟨[], by simp [offsL]⟩
    · obtain ⟨r, hr⟩ := offsL_split cs (show i < n by omega)
      exact ⟨r ++ beK (1024 - bodyN (cs.take (n + 1))) 2, by rw [offsL, hr]; simp⟩

theorem rb_split (k l : Nat) (cs : List ByteArray) : ∃ r, sealL k l cs = beK (crcN (midL k l cs cs.length)) 4 ++ ([UInt8.ofNat k, 0] ++ (beK cs.length 2 ++ (beK l 4 ++ (offsL cs cs.length ++ r)))) ∧ ∃ z, r = z ++ bodyL cs := by
  refine ⟨_, ?_, List.replicate (1012 - 2 * cs.length - bodyN (cs.take cs.length)) 0, rfl⟩
  rw [sealL]
  congr 1
  rw [midL, headL, List.take_length]
  simp only [List.append_assoc]
section
variable {k l : Nat} {cs : List ByteArray}
theorem rb_sum (hu : usedN cs ≤ 1012) : at32N (sealL k l cs) 0 = crcN ((sealL k l cs).drop 4) := by
  have := at32_mid (a := []) (b := midL k l cs cs.length) (o := 0) rfl (crcN_lt (midL k l cs cs.length))
  have hd : (sealL k l cs).drop 4 = midL k l cs cs.length := by
    rw [sealL]; exact List.drop_left' (beK_len 4 _)
  rw [hd]
  exact this
theorem rb_kind (hu : usedN cs ≤ 1012) (hk : k ≤ 5) : ((sealL k l cs).getD 4 0).toNat = k := by
  obtain ⟨r, h, _⟩ := rb_split k l cs
  rw [h]
  have := getD_mid (beK (crcN (midL k l cs cs.length)) 4) ([0] ++ (beK cs.length 2 ++ (beK l 4 ++ (offsL cs cs.length ++ r)))) (UInt8.ofNat k)
  rw [beK_len] at this
  rw [show ∀ t : List UInt8, [UInt8.ofNat k, 0] ++ t = UInt8.ofNat k :: ([0] ++ t) from fun _ => rfl, this, UInt8.toNat_ofNat']
  omega
theorem cells_few (hu : usedN cs ≤ 1012) : cs.length ≤ 253 := by
  have := used_body cs
  have h2 : 2 * cs.length ≤ bodyN cs := by
    clear hu this
    induction cs with
    | nil => simp
    | cons c cs ih => simp only [bodyN, List.map_cons, List.sum_cons, List.length_cons] at *; omega
  omega
theorem rb_count (hu : usedN cs ≤ 1012) : at16N (sealL k l cs) 6 = cs.length := by
  obtain ⟨r, h, _⟩ := rb_split k l cs
  have hc := cells_few hu
  rw [h, ← List.append_assoc]
  exact at16_mid (by rw [List.length_append, beK_len]; rfl) (by omega)
theorem rb_link (hu : usedN cs ≤ 1012) (hl : l ≤ 2147483647) : at32N (sealL k l cs) 8 = l := by
  obtain ⟨r, h, _⟩ := rb_split k l cs
  rw [h, ← List.append_assoc, ← List.append_assoc]
  exact at32_mid (by rw [List.length_append, List.length_append, beK_len, beK_len]; rfl) (by omega)
theorem rb_offs (hu : usedN cs ≤ 1012) {i : Nat} (hi : i < cs.length) : at16N (sealL k l cs) (12 + 2 * i) = 1024 - bodyN (cs.take (i + 1)) := by
  obtain ⟨r, h, _⟩ := rb_split k l cs
  obtain ⟨r2, h2⟩ := offsL_split cs hi
  rw [h, h2, List.append_assoc (offsL cs i), List.append_assoc (beK _ 2) r2, ← List.append_assoc, ← List.append_assoc, ← List.append_assoc, ← List.append_assoc]
  exact at16_mid (by simp only [List.length_append, beK_len, offsL_len]; rfl) (by omega)
theorem rb_cell (hu : usedN cs ≤ 1012) {i : Nat} (hi : i < cs.length) : ∃ X Y, sealL k l cs = X ++ (beK cs[i].size 2 ++ (cs[i].data.toList ++ Y)) ∧ X.length = 1024 - bodyN (cs.take (i + 1)) := by
  obtain ⟨r, h, z, hz⟩ := rb_split k l cs
  have hs : bodyL cs = bodyL (cs.drop (i + 1)) ++ (beK cs[i].size 2 ++ (cs[i].data.toList ++ bodyL (cs.take i))) := by
    conv => lhs; rw [← List.take_append_drop (i + 1) cs]
    rw [bodyL_append, List.take_succ_eq_append_getElem hi, bodyL_snoc]
    simp only [List.append_assoc]
  have hlen := sealL_len (k := k) (l := l) hu
  have b1 := body_le hu (i + 1) (by omega)
  have b2 := bodyN_take cs hi
  subst hz
  refine ⟨beK (crcN (midL k l cs cs.length)) 4 ++ ([UInt8.ofNat k, 0] ++ (beK cs.length 2 ++ (beK l 4 ++ (offsL cs cs.length ++ (z ++ bodyL (cs.drop (i + 1))))))), bodyL (cs.take i), ?_, ?_⟩
  · rw [h, hs]; simp only [List.append_assoc]
  · rw [h, hs] at hlen
    simp only [List.length_append, beK_len, bodyL_len, Array.length_toList] at hlen ⊢
    rw [show cs[i].data.size = cs[i].size from rfl] at hlen
    omega
theorem rb_read (hu : usedN cs ≤ 1012) : ∀ {i : Nat}, i ≤ cs.length → readGo (bsOf (sealL k l cs)) i = some (cs.take i)
  | 0, _ => rfl
  | i + 1, h => by
    have hi : i < cs.length := by omega
    obtain ⟨X, Y, hX, hl⟩ := rb_cell (k := k) (l := l) hu hi
    have b1 := body_le hu (i + 1) h
    have b2 := bodyN_take cs hi
    have a1 := rb_offs (k := k) (l := l) hu hi
    have a2 : at16N (sealL k l cs) (1024 - bodyN (cs.take (i + 1))) = cs[i].size := by
      rw [hX]; exact at16_mid hl (by omega)
    rw [readGo, rb_read hu (by omega), Option.bind_some, bsOf_data, a1, a2, if_neg (by omega), List.take_succ_eq_append_getElem hi]
    congr 3
    have hd : (sealL k l cs).drop (1024 - bodyN (cs.take i ++ [cs[i]]) + 2) = cs[i].data.toList ++ Y := by
      rw [← List.take_succ_eq_append_getElem hi, hX, ← List.append_assoc]
      exact List.drop_left' (by rw [List.length_append, hl, beK_len])
    have ht : 1024 - bodyN (cs.take i ++ [cs[i]]) + 2 + cs[i].size - (1024 - bodyN (cs.take i ++ [cs[i]]) + 2) = cs[i].data.toList.length := by simp
    rw [Lib.extract_eq, bsOf_data, hd, ht, List.take_left]
end
theorem openN_some {s : ByteArray} {n : Nat} {p : Pg} (h : openN s n = some p) : Valid s p := by
  unfold openN at h
  obtain ⟨cs, _, h2⟩ := Option.bind_eq_some_iff.1 h
  exact (fin_some.1 h2).2
theorem openN_valid {s : ByteArray} {p : Pg} (h : Valid s p) : openN s p.2.2.length = some p := by
  obtain ⟨k, l, cs⟩ := p
  obtain ⟨h1, h2, h3, h4, h5⟩ := h
  simp only at h1 h2 h3 h4 h5
  subst h5
  unfold openN
  rw [rb_read h4 (Nat.le_refl _), List.take_length, Option.bind_some, bsOf_data, rb_kind h4 h2, rb_link h4 h3, fin_some]
  exact ⟨rfl, h1, h2, h3, h4, rfl⟩
theorem valid_uniq {s : ByteArray} {p q : Pg} (hp : Valid s p) (hq : Valid s q) : p = q := by
  have h1 := openN_valid hp
  have h2 := openN_valid hq
  have c1 : at16N s.data.toList 6 = p.2.2.length := by rw [← hp.2.2.2.2, bsOf_data]; exact rb_count hp.2.2.2.1
  have c2 : at16N s.data.toList 6 = q.2.2.length := by rw [← hq.2.2.2.2, bsOf_data]; exact rb_count hq.2.2.2.1
  rw [← c1] at h1
  rw [← c2, h1] at h2
  injection h2
theorem openP_valid {s : ByteArray} {p : Pg} : openP s = some p ↔ Valid s p := by
  constructor
  · intro h
    unfold openP at h
    split at h
    · cases h
    · exact openN_some h
  · intro h
    have h0 := h
    obtain ⟨h1, h2, h3, h4, h5⟩ := h
    have c1 : at16N s.data.toList 6 = p.2.2.length := by rw [← h5, bsOf_data]; exact rb_count h4
    have c2 := cells_few h4
    have c3 : at32N s.data.toList 0 = crcN (s.data.toList.drop 4) := by rw [← h5, bsOf_data]; exact rb_sum h4
    have c4 : s.size = 1024 := by rw [← h5, bsOf_size]; exact sealL_len h4
    unfold openP
    rw [if_neg (by rintro (h | h | h); exact h c4; exact h c3; omega), c1]
    exact openN_valid h0
theorem openR_valid {s : ByteArray} {p : Pg} : openR s = some p ↔ Valid s p := by
  constructor
  · intro h
    unfold openR at h
    split at h
    · cases h
    · exact openN_some h
  · intro h
    have h0 := h
    obtain ⟨h1, h2, h3, h4, h5⟩ := h
    have c1 : at16N s.data.toList 6 = p.2.2.length := by rw [← h5, bsOf_data]; exact rb_count h4
    have c2 := cells_few h4
    have c4 : s.size = 1024 := by rw [← h5, bsOf_size]; exact sealL_len h4
    unfold openR
    rw [if_neg (by rintro h; exact h c4), c1, Nat.min_eq_left (by omega)]
    exact openN_valid h0
theorem open_same (s : ByteArray) : openP s = openR s := by
  cases h : openR s with
  | none =>
    cases h2 : openP s with
    | none => rfl
    | some p => rw [openR_valid.2 (openP_valid.1 h2)] at h; cases h
  | some p => exact openP_valid.2 (openR_valid.1 h)

end Go.Proofs.Ytjihboddejaelaa

/-
  A pool in plain Lean: what each of its operations makes of it. No program in sight.
-/
namespace Go.Proofs.Ytjihboddejaelaa
set_option linter.unusedVariables false
set_option linter.unusedSimpArgs false
open Go.RowKit
set_option linter.unusedVariables false
set_option linter.unusedSimpArgs false

/-- a pool: its log, how many frames at most, the frames (the one used longest ago first), how many pages, the first free one, the pages that were turned, what was done -/
structure Pl where
  L : Lg
  most : Nat
  ring : List Pf
  pages : Nat
  free : Nat
  turned : List Nat
  hits : Int
  misses : Int
  spills : Int
def dropN (x : Nat) (F : List Pf) : List Pf := F.filter (fun f => f.n != x)
def findN (x : Int) (F : List Pf) : Option Pf := F.find? (fun f => (f.n : Int) == x)
def idle (F : List Pf) : Option Pf := F.find? (fun f => f.pins == 0)
def insN (x : Nat) (T : List Nat) : List Nat := if x ∈ T then T else x :: T
def blankS : ByteArray := sealS 3 0 []
def Pl.spill (P : Pl) (f : Pf) : Pl × Int :=
  if f.dirty then
    if P.L.appendE f.n f.s = 0 then ({ P with L := P.L.append f.n f.s, spills := wrap64 (P.spills + 1), ring := dropN f.n P.ring }, 0)
    else ({ P with L := P.L.append f.n f.s }, P.L.appendE f.n f.s)
  else ({ P with ring := dropN f.n P.ring }, 0)
def Pl.room (P : Pl) : Pl × Int :=
  if P.ring.length < P.most then (P, 0) else match idle P.ring with
    | none => (P, 6)
    | some f => P.spill f
/-- a page is read out of the log into a frame -/
def Pl.fetch (P : Pl) (x : Nat) : Pl × Int :=
  if P.L.rw.readE x = 0 then ({ P with misses := wrap64 (P.misses + 1), ring := P.ring ++ [⟨x, P.L.rw.readS x, 0, false⟩] }, 0) else (P, P.L.rw.readE x)
def Pl.get (P : Pl) (x : Int) : Pl × Int :=
  if 0 ≤ x ∧ x < (P.pages : Int) then
    match findN x P.ring with
    | some f => ({ P with hits := wrap64 (P.hits + 1), ring := dropN f.n P.ring ++ [f] }, 0)
    | none => if P.room.2 = 0 then P.room.1.fetch x.toNat else P.room
  else (P, 7)
/-- the frame used last -/
def Pl.lastF (P : Pl) : Pf := P.ring.getLastD pf0
def Pl.setLast (P : Pl) (f : Pf) : Pl := { P with ring := P.ring.dropLast ++ [f] }
def Pl.put (P : Pl) (x : Int) (s : ByteArray) : Pl × Int :=
  if (P.get x).2 = 0 then ({ (P.get x).1.setLast { (P.get x).1.lastF with s := s, dirty := true } with turned := insN x.toNat (P.get x).1.turned }, 0) else P.get x
def Pl.write (P : Pl) (x : Int) (s : ByteArray) : Pl × Int := if x = 0 ∨ s.size ≠ 1024 then (P, 1) else P.put x s
def Pl.setFree (P : Pl) (n : Nat) : Pl × Int :=
  if (P.get 0).2 = 0 then
    match openP (P.get 0).1.lastF.s with
    | none => ((P.get 0).1, 4)
    | some pg =>
      if ((P.get 0).1.put 0 (sealS 4 n pg.2.2)).2 = 0 then ({ ((P.get 0).1.put 0 (sealS 4 n pg.2.2)).1 with free := n }, 0)
      else (P.get 0).1.put 0 (sealS 4 n pg.2.2)
  else P.get 0
/-- one page more -/
def Pl.grow (P : Pl) : Pl × Int :=
  if P.room.2 = 0 then ({ P.room.1 with pages := P.room.1.pages + 1, ring := P.room.1.ring ++ [⟨P.room.1.pages, blankS, 0, true⟩], turned := insN P.room.1.pages P.room.1.turned }, 0) else P.room
/-- the first free page is taken -/
def Pl.reuse (P : Pl) : Pl × Int :=
  if (P.get P.free).2 = 0 then
    match openP (P.get P.free).1.lastF.s with
    | none => ((P.get P.free).1, 4)
    | some pg =>
      if ((P.get P.free).1.setFree pg.2.1).2 = 0 then ((P.get P.free).1.setFree pg.2.1).1.put P.free blankS
      else (P.get P.free).1.setFree pg.2.1
  else P.get P.free
def Pl.alloc (P : Pl) : Pl × Int := if P.free = 0 then (if 67108864 < (P.pages + 1) * 1024 then (P, 8) else P.grow) else P.reuse
/-- the page that Alloc tells -/
def Pl.allocN (P : Pl) : Nat := if P.free = 0 then P.pages else P.free
def Pl.freeP (P : Pl) (x : Int) : Pl × Int :=
  if x = 0 then (P, 1)
  else if (P.put x (sealS 3 P.free [])).2 = 0 then (P.put x (sealS 3 P.free [])).1.setFree x.toNat
  else P.put x (sealS 3 P.free [])
def cleanN (x : Nat) (F : List Pf) : List Pf := F.map (fun f => if f.n = x then { f with dirty := false } else f)
def textN (x : Nat) (F : List Pf) : ByteArray := ((findN x F).map (·.s)).getD ⟨#[]⟩
/-- dirty frames come into the log, the last one as a commit -/
def Pl.flush : List Nat → Pl → Pl × Int
  | [], P => (P, 0)
  | [n], P =>
    if P.L.commitE n (textN n P.ring) P.pages = 0 then ({ P with L := P.L.commit n (textN n P.ring) P.pages, ring := cleanN n P.ring }, 0)
    else ({ P with L := P.L.commit n (textN n P.ring) P.pages }, P.L.commitE n (textN n P.ring) P.pages)
  | n :: m :: r, P =>
    if P.L.appendE n (textN n P.ring) = 0 then Pl.flush (m :: r) { P with L := P.L.append n (textN n P.ring), ring := cleanN n P.ring }
    else ({ P with L := P.L.append n (textN n P.ring) }, P.L.appendE n (textN n P.ring))
def dirtyN (F : List Pf) : List Nat := ((F.filter (·.dirty)).map (·.n)).mergeSort (· ≤ ·)
def Pl.told (R : Pl × Int) : Pl × Int :=
  if R.2 = 0 then
    (if 1000 ≤ R.1.L.fs.length then ({ R.1 with turned := [], L := R.1.L.checkpoint.1 }, R.1.L.checkpoint.2) else ({ R.1 with turned := [] }, 0))
  else R
def Pl.commit (P : Pl) : Pl × Int :=
  if P.turned = [] then (P, 0)
  else if dirtyN P.ring = [] then (if (P.get 0).2 = 0 then Pl.told (Pl.flush [0] (P.get 0).1) else P.get 0)
  else Pl.told (Pl.flush (dirtyN P.ring) P)
/-- page 0 is read, and tells the first free page -/
def Pl.root (P : Pl) : Pl × Int :=
  if (P.get 0).2 = 0 then
    match openP (P.get 0).1.lastF.s with
    | none => ({ (P.get 0).1 with free := 0 }, 4)
    | some pg => ({ (P.get 0).1 with free := pg.2.1 }, 0)
  else P.get 0
def Pl.rolled (P : Pl) : Pl := { P with L := P.L.back, ring := P.ring.filter (fun f => !(decide (f.n ∈ P.turned))), turned := [], pages := P.L.pages }
def Pl.rollback (P : Pl) : Pl × Int := if P.ring.any (fun f => decide (0 < f.pins)) then (P, 6) else P.rolled.root

end Go.Proofs.Ytjihboddejaelaa

/-
  Maps from int to numbers or to blocks (pool.frame), by a function that tells what they hold and by how many there are.
-/
namespace Go.Proofs.Ytjihboddejaelaa
set_option linter.unusedVariables false
set_option linter.unusedSimpArgs false
open Go.RowKit
open Go.BigFrame
open Go.Maps
set_option linter.unusedVariables false
set_option linter.unusedSimpArgs false

/-- how a pointer to a frame reads: by its block -/
def frElem : Value → Option (DataW Unit × List MemPlace)
  | .pointer none => some (.lit (.int .i64 (-1)), [])
  | .pointer (some ⟨b, 0, none⟩) => some (.lit (.int .i64 (b : Int)), [])
  | _ => none
def ptrO : Option Nat → Value
  | none => .pointer none
  | some b => .pointer (some ⟨b, 0, none⟩)
theorem frElem_inv {v : Value} {x : Int} {ps : List MemPlace} (h : frElem v = some (.lit (.int .i64 x), ps)) : (x = -1 ∧ v = .pointer none) ∨ ∃ b : Nat, x = b ∧ v = .pointer (some ⟨b, 0, none⟩) := by
  unfold frElem at h
  split at h
  · injection h with h; injection h with h1 h2; injection h1 with h3; injection h3 with h4 h5; exact .inl ⟨h5.symm, rfl⟩
  · rename_i b
    injection h with h; injection h with h1 h2; injection h1 with h3; injection h3 with h4 h5; exact .inr ⟨b, h5.symm, rfl⟩
  · cases h
/-- D holds what g says -/
def Says (D : DataW Unit) (g : Int → Option Nat) : Prop := ∀ x : Int, (g x = none → Maps.has D (.int .i64 x) = false) ∧ ∀ v, g x = some v → ∀ z, D.atKey (.int .i64 x) z = .lit (.int .i64 (v : Int))
theorem Says.has {D : DataW Unit} {g : Int → Option Nat} (h : Says D g) (x : Int) : Maps.has D (.int .i64 x) = (g x).isSome := by
  cases hg : g x with
  | none => rw [(h x).1 hg]; rfl
  | some v => rw [has_true_of_atKey ((h x).2 v hg)]; rfl
theorem Says.put {D : DataW Unit} {g : Int → Option Nat} (hm : Maps.IsMap D) (h : Says D g) (k : Int) (v : Nat) : Says (D.put (.int .i64 k) (.lit (.int .i64 (v : Int)))) (fun y => if y = k then some v else g y) := fun x => by
  dsimp only
  by_cases hx : x = k
  · subst hx
    rw [if_pos rfl]
    exact ⟨fun h => (by cases h), fun t' h z => by cases h; exact atKey_put_same (k := .int .i64 x) hm trivial _ _⟩
  · have hne : (Lit.int .i64 x) ≠ .int .i64 k := fun e => by cases e; exact hx rfl
    rw [if_neg hx]
    refine ⟨fun h1 => ?_, fun t' h1 z => ?_⟩
    · rw [has_put_other hne]; exact (h x).1 h1
    · rw [atKey_put_other hne]; exact (h x).2 t' h1 z
theorem Says.del {D : DataW Unit} {g : Int → Option Nat} (h : Says D g) (k : Int) : Says (D.del (.int .i64 k)) (fun y => if y = k then none else g y) := fun x => by
  dsimp only
  by_cases hx : x = k
  · subst hx
    rw [if_pos rfl]
    exact ⟨fun _ => has_del_same, fun t' h => by cases h⟩
  · have hne : (Lit.int .i64 x) ≠ .int .i64 k := fun e => by cases e; exact hx rfl
    rw [if_neg hx]
    refine ⟨fun h1 => ?_, fun t' h1 z => ?_⟩
    · rw [has_del_other hne]; exact (h x).1 h1
    · rw [atKey_del_other hne]; exact (h x).2 t' h1 z
theorem Says.congr {D : DataW Unit} {g g' : Int → Option Nat} (h : Says D g) (e : ∀ x, g x = g' x) : Says D g' := by
  have : g = g' := funext e
  rwa [← this]
theorem own_tight {R : Value → Option (DataW Unit × List MemPlace)} {w : World} {b n : Nat} {D : DataW Unit} (h : w.ownsMap Try.prog 3 R b n D) : w.ownsMap Try.prog 3 R b (Maps.size D) D := by
  obtain ⟨es, cl, hb, F, hs, rfl⟩ := h
  exact ⟨es, cl, hb, F, by simp [Maps.size, length_sorted], rfl⟩
/-- block b is a map that holds what g says: c entries -/
def GM (R : Value → Option (DataW Unit × List MemPlace)) (w : World) (b : Nat) (g : Int → Option Nat) (c : Nat) : Prop := ∃ D : DataW Unit, w.ownsMap Try.prog 3 R b c D ∧ Says D g ∧ Maps.size D = c
section
variable {R : Value → Option (DataW Unit × List MemPlace)} {w w' : World} {b c : Nat} {g g' : Int → Option Nat}
theorem GM.lt (h : GM R w b g c) : b < w.heap.size := by
  obtain ⟨D, h1, _⟩ := h
  exact h1.lt
theorem GM.block (h : GM R w b g c) (hb : w'.heap[b]? = w.heap[b]?) : GM R w' b g c := by
  obtain ⟨D, ⟨es, cl, h1, h2⟩, h3⟩ := h
  exact ⟨D, ⟨es, cl, hb.trans h1, h2⟩, h3⟩
theorem GM.below (h : GM R w b g c) (hb : Below w.heap.size w w') : GM R w' b g c := h.block (hb.block b h.lt)
theorem GM.turn {x y : List (Option Nat)} (h : GM R w b g c) (ht : Turn x y w w') (hg : some b ∉ x) : GM R w' b g c := h.block (ht.block b h.lt hg)
theorem GM.far (h : GM R w b g c) {p : Addr} (hp : b ≠ p.block) (u : Value) : GM R (w.setCell p u) b g c := h.block (Below.heap_setCell w p u b hp)
theorem GM.made (R : Value → Option (DataW Unit × List MemPlace)) (w : World) : GM R (w.alloc (.map #[] 0)) w.heap.size (fun _ => none) 0 := ⟨_, World.ownsMap_made _ _ _ _, fun x => ⟨fun _ => rfl, fun t h => by cases h⟩, rfl⟩
theorem GM.congr (h : GM R w b g c) (e : ∀ x, g x = g' x) : GM R w b g' c := by
  have : g = g' := funext e
  rwa [← this]
theorem GM.notcells (h : GM R w b g c) {t : TypeId} {cs : Array Value} (hh : Has w b t cs) : False := by
  obtain ⟨D, ⟨es, cl, h1, _⟩, _⟩ := h
  unfold Has at hh
  rw [hh] at h1; cases h1
theorem GM.put {t e : TypeId} (ht : Try.prog.underlying t = some (.map 3 e)) (h : GM R w b g c) (hc : c ≤ 100000000) (k : Int) (hk : (Lit.int .i64 k).wf = true) {val : Value} {v : Nat} {ps : List MemPlace} (hv : R val = some (.lit (.int .i64 (v : Int)), ps)) :
    ∃ w', (Instr.mapUpdate t (.map (some b)) (.int .i64 k) val).run Try.prog w = .ok () w' ∧ GM R w' b (fun y => if y = k then some v else g y) (if (g k).isSome then c else c + 1) ∧ w.grownBy w' (some b) := by
  obtain ⟨D, h1, h2, h3⟩ := h
  obtain ⟨w', hr, h4, h5⟩ := h1.update lawInt ht (by unfold maxLen; omega) (keyOf_int_mk Try.underlying3 hk) hv
  have hs := size_put (k := .int .i64 k) (h1.tidy lawInt) (.lit (.int .i64 (v : Int)))
  rw [h2.has, h3] at hs
  have ht := own_tight h4
  rw [hs] at ht
  exact ⟨w', hr, ⟨_, ht, h2.put h1.isMap k v, hs⟩, h5⟩
theorem GM.del {t e : TypeId} (ht : Try.prog.underlying t = some (.map 3 e)) (h : GM R w b g c) (k : Int) (hk : (Lit.int .i64 k).wf = true) (ty : TypeId) :
    ∃ w', (Builtin.delete_ #[t, 3] ty #[.map (some b), .int .i64 k]).run Try.prog w = .ok (.tuple #[]) w' ∧ GM R w' b (fun y => if y = k then none else g y) (if (g k).isSome then c - 1 else c) ∧ w.grownBy w' (some b) := by
  obtain ⟨D, h1, h2, h3⟩ := h
  obtain ⟨w', hr, h4, h5⟩ := h1.drop lawInt ht (keyOf_int_mk Try.underlying3 hk) ty
  have hs := size_del (k := .int .i64 k) (h1.tidy lawInt)
  rw [h2.has, h3] at hs
  have hs2 : Maps.size (D.del (.int .i64 k)) = if (g k).isSome then c - 1 else c := by
    cases hg : (g k).isSome <;> rw [hg] at hs <;> simp at hs ⊢ <;> omega
  have ht := own_tight h4
  rw [hs2] at ht
  exact ⟨w', hr, ⟨_, ht, h2.del k, hs2⟩, h5.grown⟩
end
section
variable {w : World} {ops : Array Oper} {rest : List Oper} {o : Oper} {a : Act} {Q : Exit → Act → World → Prop}
theorem zeroFr (w : World) : (zeroValue 127).run Try.prog w = .ok (.pointer none) w := by kernel_rfl
/-- m[k] of a map to frames -/
theorem wpList_lookup_fr (w : World) {ops : Array Oper} {rest : List Oper} {o : Oper} {a : Act} {Q : Exit → Act → World → Prop} (hg : o.guard = none) (m x : Operand) (hop : o.op = Op.lookup 128 m x false) (b c : Nat) (g : Int → Option Nat)
    (hm : a.eval m = .map (some b)) (h : GM frElem w b g c) (k : Int) (hx : a.eval x = .int .i64 k) (hk : (Lit.int .i64 k).wf = true)
    (hK : wpList Try.prog ops Q rest (a.put o.dst (ptrO (g k))) w) : wpList Try.prog ops Q (o :: rest) a w := by
  obtain ⟨D, h1, h2, h3⟩ := h
  refine wpList_plain hg fun K' hK' => ?_
  obtain ⟨v, ps, hrun, hv⟩ := h1.lookup lawInt Try.underlying128 (zeroFr w) (zd := .lit (.int .i64 (-1))) (zp := []) rfl (keyOf_int_mk Try.underlying3 hk)
  have hvv : v = ptrO (g k) := by
    cases hgk : g k with
    | none =>
      rw [atKey_of_not_has ((h2 k).1 hgk)] at hv
      rcases frElem_inv hv with ⟨_, e⟩ | ⟨y, e, _⟩
      · exact e
      · omega
    | some y =>
      rw [(h2 k).2 y hgk] at hv
      rcases frElem_inv hv with ⟨e, _⟩ | ⟨z, e, e2⟩
      · omega
      · have : z = y := by omega
        rw [e2, this]; rfl
  subst hvv
  unfold Oper.wp
  simp [execOp, hop, hm, hx, hrun, Result.andThen]
  exact hK' _ _ hK
theorem wpList_put_gm {R : Value → Option (DataW Unit × List MemPlace)} (w : World) {ops : Array Oper} {rest : List Oper} {o : Oper} {a : Act} {Q : Exit → Act → World → Prop} (hg : o.guard = none) (m x v : Operand) (t e : TypeId) (hop : o.op = Op.mapUpdate t m x v)
    (ht : Try.prog.underlying t = some (.map 3 e)) (b c : Nat) (g : Int → Option Nat) (hm : a.eval m = .map (some b)) (h : GM R w b g c) (hc : c ≤ 100000000) (k : Int) (hx : a.eval x = .int .i64 k) (hk : (Lit.int .i64 k).wf = true)
    (val : Value) (y : Nat) (hval : a.eval v = val) (ps : List MemPlace) (hv : R val = some (.lit (.int .i64 (y : Int)), ps))
    (hK : ∀ w', GM R w' b (fun z => if z = k then some y else g z) (if (g k).isSome then c else c + 1) → w.grownBy w' (some b) → wpList Try.prog ops Q rest (a.put o.dst undef) w') : wpList Try.prog ops Q (o :: rest) a w := by
  refine wpList_plain hg fun K' hK' => ?_
  obtain ⟨w', hrun, h1, h2⟩ := h.put ht hc k hk hv
  unfold Oper.wp
  simp [execOp, hop, hm, hx, hval, hrun, Result.andThen]
  exact hK' _ _ (hK w' h1 h2)
theorem wpList_del_gm {R : Value → Option (DataW Unit × List MemPlace)} (w : World) {ops : Array Oper} {rest : List Oper} {o : Oper} {a : Act} {Q : Exit → Act → World → Prop} (hg : o.guard = none) (m x : Operand) (t e : TypeId) (hop : o.op = Op.call { callee := Callee.builtin Builtin.delete, args := #[m, x], argTypes := #[t, 3] })
    (ht : Try.prog.underlying t = some (.map 3 e)) (b c : Nat) (g : Int → Option Nat) (hm : a.eval m = .map (some b)) (h : GM R w b g c) (k : Int) (hx : a.eval x = .int .i64 k) (hk : (Lit.int .i64 k).wf = true)
    (hK : ∀ w', GM R w' b (fun z => if z = k then none else g z) (if (g k).isSome then c - 1 else c) → w.grownBy w' (some b) → wpList Try.prog ops Q rest (a.put o.dst (.tuple #[])) w') : wpList Try.prog ops Q (o :: rest) a w := by
  refine wpList_plain hg fun K' hK' => ?_
  obtain ⟨w', hrun, h1, h2⟩ := h.del ht k hk o.type
  unfold Oper.wp
  simp [execOp, hop, resolve, invoke, builtin, hm, hx, hrun, Result.andThen]
  exact hK' _ _ (hK w' h1 h2)
theorem wpList_len_gm {R : Value → Option (DataW Unit × List MemPlace)} (w : World) {ops : Array Oper} {rest : List Oper} {o : Oper} {a : Act} {Q : Exit → Act → World → Prop} (hg : o.guard = none) (m : Operand) (t e : TypeId) (hop : o.op = Op.call { callee := Callee.builtin Builtin.len, args := #[m], argTypes := #[t] })
    (ht : Try.prog.underlying t = some (.map 3 e)) (b c : Nat) (g : Int → Option Nat) (hm : a.eval m = .map (some b)) (h : GM R w b g c)
    (hK : wpList Try.prog ops Q rest (a.put o.dst (.int .i64 (c : Int))) w) : wpList Try.prog ops Q (o :: rest) a w := by
  obtain ⟨D, h1, h2, h3⟩ := h
  refine wpList_len_own w hg m t hop 3 e ht R b c D hm h1 ?_
  rw [h3]; exact hK
end
theorem intElem (v : Nat) (hv : v ≤ 4611686018427387904) : plainElem (H := Unit) Try.prog 3 (.int .i64 (v : Int)) = some (.lit (.int .i64 (v : Int)), []) := plainElem_int Try.underlying3 (wfI (by omega) (by omega))

end Go.Proofs.Ytjihboddejaelaa
