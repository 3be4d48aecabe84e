/-
  A region that draws its order, walked ONCE by what each operation's value is good for: for each operation a predicate on its value and the world, kept by every later step that makes memory at most; then what must come last (the stores) in its order. No program in sight.
-/
import Derived.Test.YtlkkpgdgnnknpaaDoorWords
import Derived.Orders
import Derived.Tactics
namespace Go.Proofs.YtlkkpgdgnnknpaaDoor
open Go.RowKit

/-- the frame with these values in the operations' slots -/
def fillA : List Oper → List Value → Act → Act
  | o :: l, u :: us, a => fillA l us (a.put o.dst u)
  | _, _, a => a

theorem put_put (a : Act) (x : Option Tmp) (u v : Value) : (a.put x u).put x v = a.put x v := by
  cases x with
  | none => rfl
  | some d => simp [Act.put, Array.setIfInBounds_setIfInBounds]
theorem put_same (a : Act) (x : Option Tmp) : ∃ u, a.put x u = a := by
  cases x with
  | none => exact ⟨undef, rfl⟩
  | some d =>
    refine ⟨a.tmps.getD d undef, ?_⟩
    have : a.tmps.setIfInBounds d (a.tmps.getD d undef) = a.tmps := by
      apply Array.ext
      · simp
      · intro i h1 h2
        rw [Array.getElem_setIfInBounds]
        split
        · rename_i e; subst e; simp [Array.getD_eq_getD_getElem?, h2]
        · rfl
    show ({ a with tmps := _ } : Act) = a
    rw [this]
theorem fillA_put (x : Option Tmp) (v : Value) : ∀ (l : List Oper) (us : List Value) (a : Act), (∀ o ∈ l, ∀ d, x = some d → o.dst ≠ some d) → (fillA l us a).put x v = fillA l us (a.put x v)
  | [], _, _, _ => by simp [fillA]
  | _ :: _, [], _, _ => by simp [fillA]
  | o :: l, u :: us, a, h => by
    simp only [fillA]
    rw [fillA_put x v l us _ (fun y hy => h y (List.mem_cons_of_mem _ hy)), Act.put_comm a (x := o.dst) (y := x) u v (fun d hd hx => h o (List.mem_cons_self ..) d hx hd)]
theorem fillA_same : ∀ (l : List Oper) (a : Act), ∃ us, us.length = l.length ∧ fillA l us a = a
  | [], a => ⟨[], rfl, rfl⟩
  | o :: l, a => by
    obtain ⟨u, hu⟩ := put_same a o.dst
    obtain ⟨us, hl, hf⟩ := fillA_same l a
    exact ⟨u :: us, by simp [hl], by simp only [fillA]; rw [hu, hf]⟩

/-- no slot is written twice -/
def distinctB : List Oper → Bool
  | [] => true
  | o :: l => (l.all fun y => match o.dst with | some d => y.dst != some d | none => true) && distinctB l
theorem fillA_set (v : Value) : ∀ (l : List Oper) (us : List Value) (i : Nat) (o : Oper) (a : Act), distinctB l = true → us.length = l.length → l[i]? = some o → (fillA l us a).put o.dst v = fillA l (us.set i v) a
  | [], _, _, _, _, _, _, h => by simp at h
  | x :: l, u :: us, i, o, a, hd, hl, hi => by
    simp only [distinctB, Bool.and_eq_true, List.all_eq_true] at hd
    cases i with
    | zero =>
      simp only [List.getElem?_cons_zero, Option.some.injEq] at hi
      subst hi
      simp only [fillA, List.set_cons_zero]
      rw [fillA_put _ _ _ _ _ (fun y hy d hx => by have := hd.1 y hy; rw [hx] at this; simpa using this), put_put]
    | succ i =>
      simp only [List.getElem?_cons_succ] at hi
      simp only [fillA, List.set_cons_succ]
      exact fillA_set v l us i o _ hd.2 (by simpa using hl) hi
  | _ :: _, [], _, _, _, _, hl, _ => by simp at hl

/-- whom an operation waits for, also through others: a row of Bools, out of the rows of those ahead of it -/
def rowB (md : Region.Mode) (n : Nat) (acc : List (List Bool)) (o : Oper) : List Bool :=
  (List.range n).map fun j => o.after.toList.any fun e => Region.binds md e && (e.on == j || (acc.getD e.on []).getD j false)
def rowsB (md : Region.Mode) (n : Nat) (l : List Oper) : List (List Bool) := l.foldl (fun acc o => acc ++ [rowB md n acc o]) []
theorem rowsB_snoc (md : Region.Mode) (n : Nat) (l : List Oper) (o : Oper) : rowsB md n (l ++ [o]) = rowsB md n l ++ [rowB md n (rowsB md n l) o] := by
  simp [rowsB, List.foldl_append]
theorem rowsA_length (md : Region.Mode) (n : Nat) : ∀ (l : List Oper) (acc : List (List Bool)), (l.foldl (fun acc o => acc ++ [rowB md n acc o]) acc).length = acc.length + l.length
  | [], acc => by simp
  | o :: l, acc => by
    rw [List.foldl_cons, rowsA_length md n l, List.length_append, List.length_cons, List.length_cons, List.length_nil]
    omega
theorem rowsB_length (md : Region.Mode) (n : Nat) (l : List Oper) : (rowsB md n l).length = l.length := by
  unfold rowsB
  rw [rowsA_length]
  simp
theorem rowsA_append (md : Region.Mode) (n : Nat) : ∀ (r : List Oper) (acc : List (List Bool)), ∃ t, r.foldl (fun acc o => acc ++ [rowB md n acc o]) acc = acc ++ t
  | [], acc => ⟨[], by simp⟩
  | o :: r, acc => by
    obtain ⟨t, ht⟩ := rowsA_append md n r (acc ++ [rowB md n acc o])
    exact ⟨rowB md n acc o :: t, by rw [List.foldl_cons, ht, List.append_assoc]; rfl⟩
theorem rowsB_append (md : Region.Mode) (n : Nat) (l r : List Oper) : ∃ t, rowsB md n (l ++ r) = rowsB md n l ++ t := by
  unfold rowsB
  rw [List.foldl_append]
  exact rowsA_append md n r _
/-- operation k waits for j -/
def waits (md : Region.Mode) (l : List Oper) (k j : Nat) : Bool := ((rowsB md l.length l).getD k []).getD j false
theorem waits_spec {md : Region.Mode} {l : List Oper} {k j : Nat} {o : Oper} (ho : l[k]? = some o) (h : waits md l k j = true) : ∃ e ∈ o.after, Region.binds md e = true ∧ (e.on = j ∨ (e.on < k ∧ waits md l e.on j = true)) := by
  have hk : k < l.length := (List.getElem?_eq_some_iff.1 ho).1
  have hsplit : l = l.take k ++ [o] ++ l.drop (k + 1) := by
    rw [List.append_assoc, List.singleton_append, ← (List.getElem?_eq_some_iff.1 ho).2, ← List.drop_eq_getElem_cons hk, List.take_append_drop]
  obtain ⟨t, ht⟩ := rowsB_append md l.length (l.take k ++ [o]) (l.drop (k + 1))
  rw [← hsplit, rowsB_snoc] at ht
  have hlen : (rowsB md l.length (l.take k)).length = k := by rw [rowsB_length, List.length_take]; omega
  have hat : (rowsB md l.length l).getD k [] = rowB md l.length (rowsB md l.length (l.take k)) o := by
    rw [ht, List.append_assoc, List.getD_eq_getElem?_getD, List.getElem?_append_right (by omega), hlen]
    simp
  have hbef : ∀ q, q < k → (rowsB md l.length l).getD q [] = (rowsB md l.length (l.take k)).getD q [] := fun q hq => by
    rw [ht, List.append_assoc, List.getD_eq_getElem?_getD, List.getElem?_append_left (by omega), List.getD_eq_getElem?_getD]
  unfold waits at h
  rw [hat] at h
  have hj : j < l.length := by
    rcases Nat.lt_or_ge j l.length with h1 | h1
    · exact h1
    · rw [List.getD_eq_getElem?_getD, List.getElem?_eq_none (by simpa [rowB] using h1)] at h
      cases h
  have h' : (o.after.toList.any fun e => Region.binds md e && (e.on == j || ((rowsB md l.length (l.take k)).getD e.on []).getD j false)) = true := by
    rw [List.getD_eq_getElem?_getD] at h
    unfold rowB at h
    rw [List.getElem?_map, List.getElem?_range hj] at h
    exact h
  obtain ⟨e, he, hh⟩ := List.any_eq_true.1 h'
  simp only [Bool.and_eq_true, Bool.or_eq_true, beq_iff_eq] at hh
  refine ⟨e, by simpa using he, hh.1, hh.2.imp id fun h2 => ?_⟩
  have hek : e.on < k := by
    rcases Nat.lt_or_ge e.on k with h1 | h1
    · exact h1
    · have hn : (rowsB md l.length (l.take k)).getD e.on [] = [] := by rw [List.getD_eq_getElem?_getD, List.getElem?_eq_none (by omega)]; rfl
      rw [hn] at h2
      simp at h2
  exact ⟨hek, by unfold waits; rw [hbef _ hek]; exact h2⟩

/-- edges go back alone -/
def backB (md : Region.Mode) : Nat → List Oper → Bool
  | _, [] => true
  | k, o :: l => (o.after.toList.all fun e => !Region.binds md e || decide (e.on < k)) && backB md (k + 1) l
theorem backB_spec {md : Region.Mode} : ∀ {k : Nat} {l : List Oper}, backB md k l = true → ∀ (i : Nat) (o : Oper), l[i]? = some o → ∀ e ∈ o.after, Region.binds md e = true → e.on < k + i
  | _, [], _, _, _, h, _, _, _ => by simp at h
  | k, x :: l, hB, i, o, hi, e, he, hb => by
    simp only [backB, Bool.and_eq_true, List.all_eq_true, Bool.or_eq_true, decide_eq_true_eq] at hB
    cases i with
    | zero =>
      simp only [List.getElem?_cons_zero, Option.some.injEq] at hi
      subst hi
      rcases hB.1 e (by simpa using he) with h | h
      · simp [hb] at h
      · simpa using h
    | succ i =>
      have := backB_spec hB.2 i o (by simpa using hi) e he hb
      omega
/-- edges go back alone, and each operation from number m on waits for all that stand ahead of it -/
def tailB (md : Region.Mode) (m : Nat) (l : List Oper) : Bool :=
  backB md 0 l && (List.range l.length).all fun k => decide (k < m) || (List.range k).all fun j => waits md l k j
theorem tailB_back {md : Region.Mode} {m : Nat} {l : List Oper} (h : tailB md m l = true) {i : Nat} {o : Oper} (hi : l[i]? = some o) {e : Edge} (he : e ∈ o.after) (hb : Region.binds md e = true) : e.on < i := by
  simp only [tailB, Bool.and_eq_true] at h
  have := backB_spec h.1 i o hi e he hb
  omega
theorem tailB_waits {md : Region.Mode} {m : Nat} {l : List Oper} (h : tailB md m l = true) {k j : Nat} (hk : k < l.length) (hm : m ≤ k) (hj : j < k) : waits md l k j = true := by
  simp only [tailB, Bool.and_eq_true, List.all_eq_true, List.mem_range, Bool.or_eq_true, decide_eq_true_eq] at h
  rcases h.2 k hk with h1 | h1
  · omega
  · exact h1 j hj

/-- nobody waits for what stands behind it -/
theorem waits_below {md : Region.Mode} {m : Nat} {l : List Oper} (hB : tailB md m l = true) : ∀ {k j : Nat}, k < j → j < l.length → waits md l k j = false := by
  intro k
  induction k using Nat.strongRecOn with
  | _ k ih =>
    intro j hkj hj
    cases hw : waits md l k j with
    | false => rfl
    | true =>
      exfalso
      have hk : l[k]? = some l[k] := by simp
      obtain ⟨e, he, hb, h⟩ := waits_spec hk hw
      have hlt := tailB_back hB hk he hb
      rcases h with h | ⟨_, h⟩
      · omega
      · rw [ih e.on hlt (by omega) hj] at h; cases h

section
variable {P : Program} {md : Region.Mode} {Q : Exit → Act → World → Prop}

theorem getD_lt {l : Array Bool} {j : Nat} (h : j < l.size) (d : Bool) : l.getD j d = l[j] := by simp [Array.getD_eq_getD_getElem?, h]
theorem getD_set {l : Array Bool} {i j : Nat} (d : Bool) : (l.setIfInBounds i true).getD j d = if i = j ∧ j < l.size then true else l.getD j d := by
  by_cases hj : j < l.size
  · rw [getD_lt (by simpa using hj), getD_lt hj, Array.getElem_setIfInBounds]
    · simp [hj]
    · exact hj
  · rw [if_neg (fun h => hj h.2)]
    simp [Array.getD_eq_getD_getElem?, hj]

/-- from number k on only what stands next may come up -/
theorem wpAny_tail {ops : Array Oper} {m : Nat} (hB : tailB md m ops.toList = true) : ∀ (rest : List Oper) (k : Nat) (listed : Array Bool) (b : Act) (w : World), m ≤ k → listed.size = ops.size → (∀ j, j < k → listed.getD j false = true) →
    (∀ j, k ≤ j → j < ops.size → listed.getD j true = false) → rest = ops.toList.drop k → wpList P ops Q rest b w → wpAny P md ops Q rest.length listed b w
  | [], k, listed, b, w, _, hs, ht, _, hr, h => by
    refine ⟨?_, h⟩
    have hk : ops.size ≤ k := by
      have := congrArg List.length hr
      simp at this; omega
    apply List.eq_nil_iff_forall_not_mem.2
    intro j hj
    obtain ⟨h0, o, ho, _⟩ := mem_ready.1 hj
    have hlt : j < ops.size := (Array.getElem?_eq_some_iff.1 ho).1
    have := ht j (by omega)
    rw [getD_lt (by omega)] at h0 this
    rw [h0] at this; cases this
  | o :: rest, k, listed, b, w, hm, hs, ht, hf, hr, h => by
    have hlt : k < ops.size := by
      have := congrArg List.length hr
      simp at this; omega
    have hok : ops[k]? = some o := by
      have : (ops.toList.drop k)[0]? = some o := by rw [← hr]; rfl
      simpa using this
    have hrest : rest = ops.toList.drop (k + 1) := by
      have := congrArg List.tail hr
      simpa using this
    have hkr : k ∈ Region.ready md ops listed := mem_ready.2 ⟨hf k (Nat.le_refl _) hlt, o, hok, fun e he hb => ht _ (by
      exact tailB_back hB (i := k) (o := o) (by simpa using hok) he hb)⟩
    refine ⟨(fun h0 => by rw [h0] at hkr; cases hkr), fun i hi => ?_⟩
    obtain ⟨hi0, oi, hoi, hall⟩ := mem_ready.1 hi
    have hilt : i < ops.size := (Array.getElem?_eq_some_iff.1 hoi).1
    have hik : ¬ i < k := fun hh => by
      have := ht i hh
      rw [getD_lt (by omega)] at hi0 this
      rw [hi0] at this; cases this
    have hki : ¬ k < i := fun hh => by
      obtain ⟨e, he, hb, hon⟩ := waits_spec (by simpa using hoi) (tailB_waits hB (k := i) (j := k) (by simpa using hilt) (by omega) hh)
      have h1 := hall e he hb
      have hel : e.on < ops.size := by have := tailB_back hB (i := i) (o := oi) (by simpa using hoi) he hb; omega
      have hek : k ≤ e.on := by
        rcases hon with h2 | ⟨_, h2⟩
        · omega
        · rcases Nat.lt_or_ge e.on k with h3 | h3
          · exact absurd h2 (by rw [waits_below hB h3 hlt]; simp)
          · exact h3
      have h2 := hf e.on hek hel
      rw [getD_lt (by omega)] at h1 h2
      rw [h1] at h2; cases h2
    obtain rfl : i = k := by omega
    have h' : wpOp P ops Q i (wpList P ops Q rest) b w := by
      unfold wpOp
      rw [hok]
      exact h
    refine wpOp_mono (fun a' w' hh => ?_) h'
    refine wpAny_tail hB rest (i + 1) _ a' w' (by omega) (by simpa using hs) (fun j hj => ?_) (fun j hj hjs => ?_) hrest hh
    · rw [getD_set]
      split
      · rfl
      · rename_i hn
        exact ht j (by
          rcases Nat.lt_or_ge j i with h1 | h1
          · exact h1
          · exact absurd ⟨by omega, by omega⟩ hn)
    · rw [getD_set]
      rw [if_neg (by omega)]
      exact hf j (by omega) hjs

/-- what is asked once an operation has been carried out: a value of which R holds -/
def goodUpon (P : Program) (R : Value → World → Prop) : Result Next → Prop
  | .ok (.value u) w' => R u w'
  | .ok .skip w' => R undef w'
  | .ok (.enter f args) w' => Calls P f args w' (fun e w'' => ∃ v, e = .returned v ∧ R v w'')
  | _ => False
/-- what is asked of operation o, number i: carried out (or not wanted) it leaves a value that is good for what PP says, and makes memory at most -/
def OpGood (P : Program) (ops : Array Oper) (PP : Nat → Value → World → Prop) (own : Nat → Value → Option Nat) (i : Nat) (o : Oper) (A : Act) (w : World) : Prop :=
  if Region.wanted o (yielded ops A.tmps) then goodUpon P (fun v w' => Below w.heap.size w w' ∧ PP i v w' ∧ ∀ b, own i v = some b → w.heap.size ≤ b) ((execOp A.eval o).run P w) else PP i undef w
attribute [local go_sem] OpGood goodUpon
theorem wp_of_good {o : Oper} {A : Act} {w : World} {R : Value → World → Prop} (h : goodUpon P R ((execOp A.eval o).run P w)) : o.wp P A w (fun a' w' => ∃ v, a' = A.put o.dst v ∧ R v w') Q := by
  unfold Oper.wp
  generalize (execOp A.eval o).run P w = r at *
  cases r with
  | ok n w' =>
    cases n <;> simp only [goodUpon] at h <;> simp only [Oper.upon]
    case value u => exact ⟨u, rfl, h⟩
    case skip => exact ⟨undef, rfl, h⟩
    case enter f args => exact h.mono fun e w'' ⟨v, he, hr⟩ => by subst he; exact ⟨v, rfl, hr⟩
  | halt x w' => simp only [goodUpon] at h

theorem good_own {ops : Array Oper} {PP : Nat → Value → World → Prop} {own : Nat → Value → Option Nat} {i : Nat} {o : Oper} {A : Act} {w : World} (hg : o.guard = none) (h : goodUpon P (fun v w' => Below w.heap.size w w' ∧ PP i v w' ∧ ∀ b, own i v = some b → w.heap.size ≤ b) ((execOp A.eval o).run P w)) : OpGood P ops PP own i o A w := by
  unfold OpGood
  rw [if_pos (by simp [Region.wanted, hg])]
  exact h
theorem goodUpon_mono {R R' : Value → World → Prop} (h : ∀ v w, R v w → R' v w) {r : Result Next} (hr : goodUpon P R r) : goodUpon P R' r := by
  cases r with
  | ok n w' =>
    cases n <;> simp only [goodUpon] at hr ⊢
    case value u => exact h _ _ hr
    case skip => exact h _ _ hr
    case enter f args => exact hr.mono fun e w'' ⟨v, he, hv⟩ => ⟨v, he, h _ _ hv⟩
  | halt x w' => simp only [goodUpon] at hr
/-- no operation owns a block -/
def noOwn : Nat → Value → Option Nat := fun _ _ => none
theorem good_plain {ops : Array Oper} {PP : Nat → Value → World → Prop} {i : Nat} {o : Oper} {A : Act} {w : World} (hg : o.guard = none) (h : goodUpon P (fun v w' => Below w.heap.size w w' ∧ PP i v w') ((execOp A.eval o).run P w)) : OpGood P ops PP noOwn i o A w :=
  good_own hg (goodUpon_mono (fun _ _ hh => ⟨hh.1, hh.2, fun b hb => by cases hb⟩) h)
theorem wpAny_inv {l1 l2 : List Oper} {a : Act} {C : World → Prop} {PP : Nat → Value → World → Prop} {own : Nat → Value → Option Nat} (hown : ∀ j u w, PP j u w → ∀ b, own j u = some b → b < w.heap.size) (hund : ∀ j, own j undef = none) (hd : distinctB l1 = true) (hB : tailB md l1.length (l1 ++ l2) = true)
    (hC : ∀ w w', C w → Below w.heap.size w w' → C w') (hst : ∀ j u w w', Below w.heap.size w w' → PP j u w → PP j u w')
    (hops : ∀ (us : List Value) (w : World), us.length = l1.length → C w → ∀ i o, l1[i]? = some o → (∀ j, (o.after.toList.any fun e => Region.binds md e && e.on == j) = true → PP j (us.getD j undef) w) →
      OpGood P (l1 ++ l2).toArray PP own i o (fillA l1 us a) w)
    (hend : ∀ (us : List Value) (w : World), us.length = l1.length → C w → (∀ j, j < l1.length → PP j (us.getD j undef) w) → (∀ i j b, i < l1.length → j < l1.length → i ≠ j → own i (us.getD i undef) = some b → own j (us.getD j undef) ≠ some b) → wpList P (l1 ++ l2).toArray Q l2 (fillA l1 us a) w) :
    ∀ (fuel : Nat) (listed : Array Bool) (us : List Value) (w : World), listed.size = l1.length + l2.length → listed.toList.count false = fuel → us.length = l1.length → C w →
      (∀ j, j < l1.length → listed.getD j true = true → PP j (us.getD j undef) w) → (∀ j, l1.length ≤ j → j < l1.length + l2.length → listed.getD j true = false) →
      (∀ q o, (l1 ++ l2)[q]? = some o → listed.getD q true = true → ∀ e ∈ o.after, Region.binds md e = true → listed.getD e.on false = true) →
      (∀ i j b, i < l1.length → j < l1.length → i ≠ j → listed.getD i true = true → listed.getD j true = true → own i (us.getD i undef) = some b → own j (us.getD j undef) ≠ some b) →
      wpAny P md (l1 ++ l2).toArray Q fuel listed (fillA l1 us a) w := by
  intro fuel
  induction fuel with
  | zero =>
    intro listed us w hs hc hl hCw hP hno hdc hdis
    have hall : ∀ j, j < listed.size → listed.getD j true = true := fun j hj => by
      have hn : false ∉ listed.toList := fun hm => by have := List.count_pos_iff.2 hm; omega
      rw [getD_lt hj]
      cases hv : listed[j] with
      | true => rfl
      | false => exact absurd (by rw [← hv]; simp) hn
    have h2 : l2 = [] := by
      cases l2 with
      | nil => rfl
      | cons x l =>
        have := hno l1.length (Nat.le_refl _) (by simp)
        rw [hall _ (by rw [hs]; simp)] at this
        cases this
    subst h2
    have he := hend us w hl hCw (fun j hj => hP j hj (hall j (by rw [hs]; simp; omega))) (fun i j b hi hj hne => hdis i j b hi hj hne (hall i (by rw [hs]; simp; omega)) (hall j (by rw [hs]; simp; omega)))
    have := wpAny_tail (P := P) (Q := Q) (md := md) (ops := (l1 ++ []).toArray) (m := l1.length) (by simpa using hB) [] l1.length listed (fillA l1 us a) w (Nat.le_refl _) (by simpa using hs)
      (fun j hj => by have := hall j (by rw [hs]; simp; omega); rw [getD_lt (by rw [hs]; simp; omega)] at this ⊢; exact this)
      (fun j hj hjs => by simp at hjs; omega) (by simp) he
    exact this
  | succ fuel ih =>
    intro listed us w hs hc hl hCw hP hno hdc hdis
    by_cases hall : ∀ j, j < l1.length → listed.getD j true = true
    · have he := hend us w hl hCw (fun j hj => hP j hj (hall j hj)) (fun i j b hi hj hne => hdis i j b hi hj hne (hall i hi) (hall j hj))
      have hlen : l2.length = fuel + 1 := by
        rw [← hc]
        have e : listed.toList = List.replicate l1.length true ++ List.replicate l2.length false := by
          apply List.ext_getElem
          · simp [hs]
          · intro j h1 h2
            have hj : j < listed.size := by simpa using h1
            rw [List.getElem_append]
            split
            · rename_i hlt
              have := hall j (by simpa using hlt)
              rw [getD_lt hj] at this
              simpa using this
            · rename_i hge
              have := hno j (by simpa using hge) (by rw [← hs]; exact hj)
              rw [getD_lt hj] at this
              simpa using this
        rw [e, List.count_append, List.count_replicate, List.count_replicate]
        simp
      have := wpAny_tail (P := P) (Q := Q) (md := md) (ops := (l1 ++ l2).toArray) (m := l1.length) (by simpa using hB) l2 l1.length listed (fillA l1 us a) w (Nat.le_refl _) (by simpa using hs)
        (fun j hj => by have := hall j hj; rw [getD_lt (by rw [hs]; omega)] at this ⊢; exact this)
        (fun j hj hjs => hno j hj (by simpa using hjs)) (by simp) he
      rw [hlen] at this
      exact this
    · have hex : ∃ j, j < l1.length ∧ listed.getD j true = false := by
        refine Classical.byContradiction fun hne => hall fun j hj => ?_
        cases hv : listed.getD j true with
        | true => rfl
        | false => exact absurd ⟨j, hj, hv⟩ hne
      -- the first that is not listed may come up
      have hmin : ∃ j, j < l1.length ∧ listed.getD j true = false ∧ ∀ q, q < j → listed.getD q true = true := by
        obtain ⟨j, hj, hf⟩ := hex
        induction j using Nat.strongRecOn with
        | _ j ihj =>
          by_cases h : ∀ q, q < j → listed.getD q true = true
          · exact ⟨j, hj, hf, h⟩
          · have : ∃ q, q < j ∧ listed.getD q true = false := by
              refine Classical.byContradiction fun hne => h fun q hq => ?_
              cases hv : listed.getD q true with
              | true => rfl
              | false => exact absurd ⟨q, hq, hv⟩ hne
            obtain ⟨q, hq, hqf⟩ := this
            exact ihj q hq (by omega) hqf
      obtain ⟨k, hk, hkf, hkmin⟩ := hmin
      have hgetk : (l1 ++ l2).toArray[k]? = some l1[k] := by simp [List.getElem?_append_left hk, hk]
      have hkr : k ∈ Region.ready md (l1 ++ l2).toArray listed := mem_ready.2 ⟨hkf, l1[k], hgetk, fun e he hb => by
        have hlt := tailB_back hB (i := k) (o := l1[k]) (by simpa using hgetk) he hb
        have := hkmin e.on (by omega)
        rw [getD_lt (by rw [hs]; omega)] at this ⊢
        exact this⟩
      refine ⟨(fun h0 => by rw [h0] at hkr; cases hkr), fun i hi => ?_⟩
      obtain ⟨hi0, oi, hoi, hafter⟩ := mem_ready.1 hi
      have him : i < l1.length := by
        rcases Nat.lt_or_ge i l1.length with h | h
        · exact h
        · exfalso
          have hil : i < (l1 ++ l2).length := (List.getElem?_eq_some_iff.1 (show (l1 ++ l2)[i]? = some oi by simpa using hoi)).1
          -- what waits for k, and is listed (or may come up), has k listed
          have key : ∀ q, q < (l1 ++ l2).length → waits md (l1 ++ l2) q k = true → (listed.getD q true = true ∨ q = i) → False := by
            intro q
            induction q using Nat.strongRecOn with
            | _ q ihq =>
              intro hq hw hor
              have hqo : (l1 ++ l2)[q]? = some (l1 ++ l2)[q] := by simp
              obtain ⟨e, he, hb, hon⟩ := waits_spec hqo hw
              have hlt := tailB_back hB hqo he hb
              have hle : listed.getD e.on false = true := by
                rcases hor with h1 | h1
                · exact hdc q _ hqo h1 e he hb
                · subst h1
                  have : (l1 ++ l2)[q] = oi := by
                    have h3 : (l1 ++ l2)[q]? = some oi := by simpa using hoi
                    rw [hqo] at h3
                    exact Option.some.inj h3
                  exact hafter e (by rw [← this]; exact he) hb
              have hes : e.on < listed.size := by rw [hs, ← List.length_append]; omega
              rcases hon with h2 | ⟨_, h2⟩
              · rw [h2] at hle
                rw [getD_lt (by rw [hs]; omega)] at hle hkf
                rw [hle] at hkf; cases hkf
              · refine ihq e.on hlt (by omega) h2 (.inl ?_)
                rw [getD_lt hes] at hle ⊢
                exact hle
          exact key i hil (tailB_waits hB hil h (by omega)) (.inr rfl)
      have hoi1 : l1[i]? = some oi := by simpa [List.getElem?_append_left him] using hoi
      have hgood := hops us w hl hCw i oi hoi1 (fun j hj => by
        obtain ⟨q, hq, hh⟩ := List.any_eq_true.1 hj
        simp only [Bool.and_eq_true, beq_iff_eq] at hh
        have hlt := tailB_back hB (i := i) (o := oi) (by simpa using hoi) (by simpa using hq) hh.1
        have := hafter _ (by simpa using hq) hh.1
        rw [hh.2] at this hlt
        refine hP j (by omega) ?_
        rw [getD_lt (by rw [hs]; omega)] at this ⊢
        exact this)
      have hcount : (listed.setIfInBounds i true).toList.count false = fuel := by
        have hil : i < listed.toList.length := by simp [hs]; omega
        have hv : listed.toList[i] = false := by
          rw [getD_lt (by simpa using hil)] at hi0
          simpa using hi0
        rw [Array.toList_setIfInBounds, List.count_set hil, hv, hc]
        simp
      have next : ∀ v w', Below w.heap.size w w' → PP i v w' → (∀ b, own i v = some b → w.heap.size ≤ b) → wpAny P md (l1 ++ l2).toArray Q fuel (listed.setIfInBounds i true) ((fillA l1 us a).put oi.dst v) w' := fun v w' hb hp hfr => by
        rw [fillA_set v l1 us i oi a hd hl hoi1]
        refine ih _ _ w' (by simpa using hs) hcount (by simpa using hl) (hC w w' hCw hb) (fun j hj hjl => ?_) (fun j hj hjs => ?_) (fun q o hqo hql e he heb => ?_) (fun x y b hx hy hne hxl hyl hox hoy => ?_)
        · rw [getD_set] at hjl
          by_cases hij : i = j
          · subst hij
            have : (us.set i v).getD i undef = v := by simp [List.getD, hl, him]
            rw [this]; exact hp
          · rw [if_neg (by omega)] at hjl
            have : (us.set i v).getD j undef = us.getD j undef := by simp [List.getD, List.getElem?_set_ne hij]
            rw [this]
            exact hst j _ w w' hb (hP j hj hjl)
        · rw [getD_set, if_neg (by omega)]
          exact hno j hj hjs
        · have hlist : listed.getD e.on false = true := by
            rw [getD_set] at hql
            by_cases hiq : i = q
            · subst hiq
              have h3 : (l1 ++ l2)[i]? = some oi := by simpa using hoi
              rw [h3] at hqo
              cases hqo
              exact hafter e he heb
            · rw [if_neg (fun hh => hiq hh.1)] at hql
              exact hdc q o hqo hql e he heb
          rw [getD_set]
          split
          · rfl
          · exact hlist
        · rw [getD_set] at hxl hyl
          have atI : (us.set i v).getD i undef = v := by simp [List.getD, hl, him]
          have atO : ∀ j, i ≠ j → (us.set i v).getD j undef = us.getD j undef := fun j hij => by simp [List.getD, List.getElem?_set_ne hij]
          by_cases hix : i = x
          · subst hix
            rw [atI] at hox
            rw [atO y hne] at hoy
            rw [if_neg (fun hh => hne hh.1)] at hyl
            have h1 := hfr b hox
            have h2 := hown y _ w (hP y hy hyl) b hoy
            omega
          · rw [atO x hix] at hox
            rw [if_neg (fun hh => hix hh.1)] at hxl
            by_cases hiy : i = y
            · subst hiy
              rw [atI] at hoy
              have h1 := hfr b hoy
              have h2 := hown x _ w (hP x hx hxl) b hox
              omega
            · rw [atO y hiy] at hoy
              rw [if_neg (fun hh => hiy hh.1)] at hyl
              exact hdis x y b hx hy hne hxl hyl hox hoy
      unfold wpOp
      simp only [hoi]
      unfold OpGood at hgood
      by_cases hw : Region.wanted oi (yielded (l1 ++ l2).toArray (fillA l1 us a).tmps) = true
      · rw [if_pos hw] at hgood ⊢
        refine .inl (Oper.wp_mono (fun a' w' hh => ?_) (wp_of_good hgood))
        obtain ⟨v, rfl, hb, hp, hfr⟩ := hh
        exact next v w' hb hp hfr
      · rw [if_neg hw] at hgood ⊢
        exact next undef w (Below.refl _ _) hgood (fun b hb => by rw [hund] at hb; cases hb)

/-- every operation is good, one after the other (each may lean on those that it waits for) -/
def AllGood (P : Program) (ops : Array Oper) (PP : Nat → Value → World → Prop) (own : Nat → Value → Option Nat) (A : Act) (us : List Value) (w : World) : Nat → List Oper → Prop
  | _, [] => True
  | i, o :: l => ((∀ j, (o.after.toList.any fun e => Region.binds .any e && e.on == j) = true → PP j (us.getD j undef) w) → OpGood P ops PP own i o A w) ∧ AllGood P ops PP own A us w (i + 1) l
theorem AllGood.at {P : Program} {ops : Array Oper} {PP : Nat → Value → World → Prop} {own : Nat → Value → Option Nat} {A : Act} {us : List Value} {w : World} : ∀ {k : Nat} {l : List Oper}, AllGood P ops PP own A us w k l → ∀ i o, l[i]? = some o →
    (∀ j, (o.after.toList.any fun e => Region.binds .any e && e.on == j) = true → PP j (us.getD j undef) w) → OpGood P ops PP own (k + i) o A w
  | _, [], _, i, o, h, _ => by simp at h
  | k, x :: l, hg, i, o, hi, hd => by
    cases i with
    | zero =>
      simp only [List.getElem?_cons_zero, Option.some.injEq] at hi
      subst hi
      exact hg.1 hd
    | succ i =>
      have := AllGood.at hg.2 i o (by simpa using hi) hd
      rw [show k + (i + 1) = k + 1 + i by omega]
      exact this
/-- what holds of all values, one after the other -/
def AllHold (PP : Nat → Value → World → Prop) (w : World) : Nat → List Value → Prop
  | _, [] => True
  | i, u :: us => PP i u w ∧ AllHold PP w (i + 1) us
theorem AllHold.of {PP : Nat → Value → World → Prop} {w : World} : ∀ {k : Nat} {us : List Value}, (∀ j, j < us.length → PP (k + j) (us.getD j undef) w) → AllHold PP w k us
  | _, [], _ => trivial
  | k, u :: us, h => ⟨h 0 (by simp), AllHold.of fun j hj => by
    have := h (j + 1) (by simpa using hj)
    rw [show k + 1 + j = k + (j + 1) by omega]
    exact this⟩

/-- **A drawn region walked once**: l1 in whatever order, then l2 in its order. -/
theorem wp_region_own {id : Nat} {a : Act} {w : World} {l : List Oper} (m : Nat) (C : World → Prop) (PP : Nat → Value → World → Prop) (own : Nat → Value → Option Nat) (hm : P.follows .mixedOrders = true) (hd : distinctB (l.take m) = true) (hB : tailB .any (l.take m).length l = true)
    (hC : ∀ w w', C w → Below w.heap.size w w' → C w') (hst : ∀ j u w w', Below w.heap.size w w' → PP j u w → PP j u w') (h0 : C { w with drawn := w.drawn + 1 }) (hown : ∀ j u w, PP j u w → ∀ b, own j u = some b → b < w.heap.size) (hund : ∀ j, own j undef = none)
    (hops : ∀ (us : List Value) (w : World), us.length = (l.take m).length → C w → AllGood P l.toArray PP own (fillA (l.take m) us a) us w 0 (l.take m))
    (hend : ∀ (us : List Value) (w : World), us.length = (l.take m).length → C w → AllHold PP w 0 us → (∀ i j b, i < us.length → j < us.length → i ≠ j → own i (us.getD i undef) = some b → own j (us.getD j undef) ≠ some b) → wpList P l.toArray Q (l.drop m) (fillA (l.take m) us a) w) :
    (Code.region id l.toArray true).wp P Q a w := by
  have hl : l.take m ++ l.drop m = l := List.take_append_drop m l
  obtain ⟨us, hus, hf⟩ := fillA_same (l.take m) a
  refine wp_region_any hm ?_
  have := wpAny_inv (P := P) (Q := Q) (md := .any) (l1 := l.take m) (l2 := l.drop m) (a := a) (C := C) (PP := PP) (own := own) hown hund hd (by rw [hl]; exact hB) hC hst (by rw [hl]; exact fun us w h1 h2 i o h3 h4 => by have := (hops us w h1 h2).at i o h3 h4; rwa [Nat.zero_add] at this)
    (by rw [hl]; exact fun us w h1 h2 h3 h4 => hend us w h1 h2 (AllHold.of fun j hj => by rw [Nat.zero_add]; exact h3 j (by rw [← h1]; exact hj)) (fun i j b hi hj => h4 i j b (by rw [← h1]; exact hi) (by rw [← h1]; exact hj))) l.length (Array.replicate l.length false) us
    { w with drawn := w.drawn + 1 } (by rw [Array.size_replicate, ← List.length_append, hl]) (by simp) hus h0 (fun j hj hjl => by
      have : j < l.length := by rw [List.length_take] at hj; omega
      rw [getD_lt (by simpa using this)] at hjl
      simp at hjl) (fun j _ hj => by
      have : j < l.length := by rw [← List.length_append, hl] at hj; exact hj
      rw [getD_lt (by simpa using this)]
      simp) (fun q o hqo hql => by
      have : q < l.length := by rw [hl] at hqo; exact (List.getElem?_eq_some_iff.1 hqo).1
      rw [getD_lt (by simpa using this)] at hql
      simp at hql) (fun i _ _ hi _ _ hil => by
      have : i < l.length := by rw [List.length_take] at hi; omega
      rw [getD_lt (by simpa using this)] at hil
      simp at hil)
  rw [hf, hl] at this
  simpa using this
/-- .. where no two blocks need be told apart -/
theorem wp_region_inv {id : Nat} {a : Act} {w : World} {l : List Oper} (m : Nat) (C : World → Prop) (PP : Nat → Value → World → Prop) (hm : P.follows .mixedOrders = true) (hd : distinctB (l.take m) = true) (hB : tailB .any (l.take m).length l = true)
    (hC : ∀ w w', C w → Below w.heap.size w w' → C w') (hst : ∀ j u w w', Below w.heap.size w w' → PP j u w → PP j u w') (h0 : C { w with drawn := w.drawn + 1 })
    (hops : ∀ (us : List Value) (w : World), us.length = (l.take m).length → C w → AllGood P l.toArray PP noOwn (fillA (l.take m) us a) us w 0 (l.take m))
    (hend : ∀ (us : List Value) (w : World), us.length = (l.take m).length → C w → AllHold PP w 0 us → wpList P l.toArray Q (l.drop m) (fillA (l.take m) us a) w) :
    (Code.region id l.toArray true).wp P Q a w :=
  wp_region_own m C PP noOwn hm hd hB hC hst h0 (fun _ _ _ _ b hb => by cases hb) (fun _ => rfl) hops (fun us w h1 h2 h3 _ => hend us w h1 h2 h3)
end

end Go.Proofs.YtlkkpgdgnnknpaaDoor
