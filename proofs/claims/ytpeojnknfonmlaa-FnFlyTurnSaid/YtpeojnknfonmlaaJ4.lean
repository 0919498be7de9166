/- A region whose order is drawn, each of whose operations comes to one value in every world of a kind and leaves such a world (calls that make memory let in): walked once, in the order of the text; then its last operations, one behind the other. -/
import Derived.Test.YtpeojnknfonmlaaJ1
import Derived.StillTail
import Derived.KernelRfl
import Derived.Test.YtpeojnknfonmlaaJ3

set_option linter.unusedVariables false
namespace Go.Proofs.Ytpeojnknfonmlaa
open Go.RowKit
section
variable {P : Program} {ops : Array Oper} {md : Region.Mode} {S : World → Prop}
theorem b_to {w W w2 : World} {n m : Nat} (h : Below n w W) (k : Below m W w2) (hn : n ≤ m) : Below n w w2 := h.trans (k.mono hn)
/-- what running an operation comes to: the value v, in a world of the kind S -/
def ComesTo (P : Program) (S : World → Prop) (v : Value) : Result Next → Prop
  | .ok (.value u) w' => u = v ∧ S w'
  | .ok .skip w' => v = undef ∧ S w'
  | .ok (.enter f args) w' => Calls P f args w' fun e w'' => e = .returned v ∧ S w''
  | _ => False
@[go_sem] theorem comesTo_value (S : World → Prop) (u v : Value) (w : World) : ComesTo P S v (.ok (.value u) w) = (u = v ∧ S w) := rfl
@[go_sem] theorem comesTo_skip (S : World → Prop) (v : Value) (w : World) : ComesTo P S v (.ok .skip w) = (v = undef ∧ S w) := rfl
@[go_sem] theorem comesTo_enter (S : World → Prop) (f : FuncId) (args : Array Value) (v : Value) (w : World) : ComesTo P S v (.ok (.enter f args) w) = Calls P f args w fun e w'' => e = .returned v ∧ S w'' := rfl
/-- in whatever world of the kind: the operation comes to v -/
def Sure (P : Program) (ops : Array Oper) (S : World → Prop) (o : Oper) (v : Value) (a : Act) : Prop :=
  (Region.wanted o (yielded ops a.tmps) = true ∧ ∀ w, S w → ComesTo P S v ((execOp a.eval o).run P w)) ∨ (Region.wanted o (yielded ops a.tmps) = false ∧ v = undef)
theorem Sure.same {o : Oper} {v : Value} {a a' : Act} (h : Sure P ops S o v a) (he : execOp a'.eval o = execOp a.eval o) (hw : Region.wanted o (yielded ops a'.tmps) = Region.wanted o (yielded ops a.tmps)) : Sure P ops S o v a' := by
  unfold Sure at *; rw [he, hw]; exact h
theorem Sure.wpOp {i : Nat} {o : Oper} {v : Value} {a : Act} (hi : ops[i]? = some o) (h : Sure P ops S o v a) {Q : Exit → Act → World → Prop} {K : Act → World → Prop} {w : World} (hS : S w) (hK : ∀ w', S w' → K (a.put o.dst v) w') : wpOp P ops Q i K a w := by
  unfold Go.wpOp
  simp only [hi]
  rcases h with ⟨h1, h2⟩ | ⟨h1, rfl⟩
  · rw [if_pos h1]
    refine .inl ?_
    have h3 := h2 w hS
    unfold Oper.wp
    generalize (execOp a.eval o).run P w = r at *
    match r, h3 with
    | .ok (.value u) w', h3 => obtain ⟨rfl, hw⟩ := h3; exact hK _ hw
    | .ok .skip w', h3 => obtain ⟨rfl, hw⟩ := h3; exact hK _ hw
    | .ok (.enter f args) w', h3 => exact Calls.mono h3 fun e w'' ⟨he, hw⟩ => by subst he; exact hK _ hw
  · rw [if_neg (by simp [h1])]; exact hK _ hS
/-- whatever order is drawn: f operations of the first n come up, each sure; then L -/
def Calm (P : Program) (md : Region.Mode) (ops : Array Oper) (S : World → Prop) (n : Nat) (L : Array Bool → Act → Prop) : Nat → Array Bool → Act → Prop
  | 0, listed, a => L listed a
  | f + 1, listed, a => Region.ready md ops listed ≠ [] ∧ ∀ i ∈ Region.ready md ops listed, i < n ∧ ∃ o v, ops[i]? = some o ∧ Sure P ops S o v a ∧ Calm P md ops S n L f (listed.setIfInBounds i true) (a.put o.dst v)
theorem Calm.any {n g : Nat} {L : Array Bool → Act → Prop} {Q : Exit → Act → World → Prop} (hL : ∀ listed a w, L listed a → S w → wpAny P md ops Q g listed a w) :
    ∀ (f : Nat) (listed : Array Bool) (a : Act) (w : World), Calm P md ops S n L f listed a → S w → wpAny P md ops Q (f + g) listed a w
  | 0, listed, a, w, h, hS => by rw [Nat.zero_add]; exact hL _ _ _ h hS
  | f + 1, listed, a, w, h, hS => by
    rw [show f + 1 + g = (f + g) + 1 by omega]
    refine ⟨fun h0 => absurd h0 h.1, fun i hi => ?_⟩
    obtain ⟨_, o, v, ho, hs, hc⟩ := h.2 i hi
    exact hs.wpOp ho hS fun w' hw' => Calm.any hL f _ _ _ hc hw'
/-- a sure one may be taken first -/
theorem Calm.first {n i : Nat} {oi : Oper} {v : Value} {L : Array Bool → Act → Prop} (hi : ops[i]? = some oi) (hsel : ∀ (j : Nat) (o : Oper) cs b, ops[j]? = some o → o.op ≠ .select cs b)
    (I : Array Bool → Prop) (hI : ∀ listed j, I listed → j ∈ Region.ready md ops listed → j < n → I (listed.setIfInBounds j true))
    (hwait : ∀ listed, I listed → listed.getD i true = false → ∀ j ∈ Region.ready md ops listed, j < n) (hin : i < n)
    (hdone : ∀ listed a, L listed a → ∀ j ∈ Region.ready md ops listed, n ≤ j) :
    ∀ (f : Nat) (listed : Array Bool) (a : Act), I listed → (∀ j oj, ops[j]? = some oj → j ≠ i → listed.getD j true = false → (∀ e ∈ oj.after, Region.binds md e = true → e.on ≠ i) → oi.apart ops oj = true) →
      i ∈ Region.ready md ops listed → Sure P ops S oi v a → Calm P md ops S n L f (listed.setIfInBounds i true) (a.put oi.dst v) → Calm P md ops S n L (f + 1) listed a := by
  intro f
  induction f with
  | zero =>
    intro listed a hinv _ hr hy H
    refine ⟨fun h => (by rw [h] at hr; cases hr), fun j hj => ?_⟩
    have hjn := hwait listed hinv (mem_ready.1 hr).1 j hj
    refine ⟨hjn, ?_⟩
    by_cases hji : j = i
    · subst hji; exact ⟨oi, v, hi, hy, H⟩
    · have := hdone _ _ H j (ready_mono hj hji)
      omega
  | succ f ih =>
    intro listed a hinv hfree hr hy H
    have hun := (mem_ready.1 hr).1
    refine ⟨fun h => (by rw [h] at hr; cases hr), fun j hj => ?_⟩
    have hjn := hwait listed hinv hun j hj
    refine ⟨hjn, ?_⟩
    by_cases hji : j = i
    · subst hji; exact ⟨oi, v, hi, hy, H⟩
    · obtain ⟨_, oj, vj, hoj, hyj, hc⟩ := H.2 j (ready_mono hj hji)
      obtain ⟨_, oj', hoj', hall⟩ := mem_ready.1 hj
      obtain rfl : oj' = oj := Option.some.inj (hoj'.symm.trans hoj)
      have hnot : ∀ e ∈ oj'.after, Region.binds md e = true → e.on ≠ i := fun e he hb heq => by
        have h1 := hall e he hb
        rw [heq, getD_both hun] at h1
        cases h1
      obtain ⟨p1, p2, p3⟩ := Oper.apart_spec (hfree j oj' hoj hji (mem_ready.1 hj).1 hnot)
      refine ⟨oj', vj, hoj, hyj.same (execOp_put oj' (fun cs b => hsel j oj' cs b hoj) a oi.dst v p1).symm (wanted_put oj' a oi.dst v p1).symm, ?_⟩
      refine ih _ _ (hI _ _ hinv hj hjn) (fun k ok hk hki hunk hno => hfree k ok hk hki ?_ hno) (ready_mono hr (Ne.symm hji)) (hy.same (execOp_put oi (fun cs b => hsel i oi cs b hi) a oj'.dst vj p3) (wanted_put oi a oj'.dst vj p3)) ?_
      · by_cases hjk : j = k
        · subst hjk; exact (mem_ready.1 hj).1
        · rw [getD_set_ne true hjk] at hunk; exact hunk
      · rw [Array.setIfInBounds_comm _ _ hji, ← Act.put_comm a v vj p2]
        exact hc
/-- the operations of a list, one behind the other, each sure; then L -/
def SureAll (P : Program) (ops : Array Oper) (S : World → Prop) (L : Act → Prop) : List Oper → Act → Prop
  | [], a => L a
  | o :: l, a => ∃ v, Sure P ops S o v a ∧ SureAll P ops S L l (a.put o.dst v)
theorem sure_cons {L : Act → Prop} {o : Oper} {l : List Oper} {a : Act} (v : Value) (hg : Region.wanted o (yielded ops a.tmps) = true) (h : ∀ w, S w → ComesTo P S v ((execOp a.eval o).run P w)) (hl : SureAll P ops S L l (a.put o.dst v)) : SureAll P ops S L (o :: l) a := ⟨v, .inl ⟨hg, h⟩, hl⟩
theorem sure_off {L : Act → Prop} {o : Oper} {l : List Oper} {a : Act} (hg : Region.wanted o (yielded ops a.tmps) = false) (hl : SureAll P ops S L l (a.put o.dst undef)) : SureAll P ops S L (o :: l) a := ⟨undef, .inr ⟨hg, rfl⟩, hl⟩
theorem sure_nil {L : Act → Prop} {a : Act} (h : L a) : SureAll P ops S L [] a := h
theorem calm_tail {n g : Nat} {Lq : Act → Prop} (hsel : Region.noSelect ops = true) (hs : Region.sinkB md ops n = true) (hc : Region.chainB md ops n = true) (hn : n < ops.size) :
    ∀ (l : List Oper) (k : Nat) (listed : Array Bool) (a : Act), (∀ j, j < l.length → l[j]? = ops[k + j]?) → k + l.length = n → HeadInv md ops n listed → Region.lexHead md ops g l.length k listed = true → SureAll P ops S Lq l a →
    Calm P md ops S n (fun listed' a' => Region.seqB md ops g n listed' = true ∧ Lq a') l.length listed a
  | [], k, listed, a, _, hk, _, hB, h => by
    obtain rfl : k = n := by simpa using hk
    exact ⟨by simpa [Region.lexHead] using hB, h⟩
  | o :: l, k, listed, a, hl, hk, inv, hB, h => by
    have h0 : ops[k]? = some o := by simpa using (hl 0 (by simp)).symm
    simp only [List.length_cons, Region.lexHead, Bool.and_eq_true] at hB
    obtain ⟨⟨hr, hf⟩, hB'⟩ := hB
    have hkn : k < n := by simp only [List.length_cons] at hk; omega
    have hr' : k ∈ Region.ready md ops listed := by simpa using hr
    obtain ⟨v, hy, hK⟩ := h
    refine Calm.first h0 (Region.noSelect_spec hsel) (HeadInv md ops n) (fun _ _ hi hj hjn => hi.set hj hjn) (fun listed hi hun j hj => ?_) hkn (fun listed' a' hL => seqB_ready hL.1) l.length listed a inv (Region.free_spec h0 hf) hr' hy
      (calm_tail hsel hs hc hn l (k + 1) _ _ (fun j hj => by have := hl (j + 1) (by simp; omega); simpa [Nat.add_assoc, Nat.add_comm 1 j] using this) (by simp only [List.length_cons] at hk; omega) (inv.set hr' hkn) hB' hK)
    rcases Nat.lt_or_ge j n with h2 | h2
    · exact h2
    · exact absurd hj (tail_waits hs hc hn hi _ k rfl hkn hun j h2)
theorem calm_all {Lq : Act → Prop} (hsel : Region.noSelect ops = true) :
    ∀ (l : List Oper) (k : Nat) (listed : Array Bool) (a : Act), (∀ j, l[j]? = ops[k + j]?) → Region.lexFrom md ops l.length k listed = true → SureAll P ops S Lq l a →
    Calm P md ops S ops.size (fun listed' a' => Region.ready md ops listed' = [] ∧ Lq a') l.length listed a
  | [], k, listed, a, _, hB, h => ⟨by simpa [Region.lexFrom] using hB, h⟩
  | o :: l, k, listed, a, hl, hB, h => by
    have h0 : ops[k]? = some o := by simpa using (hl 0).symm
    simp only [List.length_cons, Region.lexFrom, Bool.and_eq_true] at hB
    obtain ⟨⟨hr, hf⟩, hB'⟩ := hB
    have hr' : k ∈ Region.ready md ops listed := by simpa using hr
    obtain ⟨v, hy, hK⟩ := h
    have hlt : ∀ listed : Array Bool, ∀ j ∈ Region.ready md ops listed, j < ops.size := fun listed j hj => by
      obtain ⟨_, o, ho, _⟩ := mem_ready.1 hj
      exact (Array.getElem?_eq_some_iff.1 ho).1
    exact Calm.first h0 (Region.noSelect_spec hsel) (fun _ => True) (fun _ _ _ _ _ => trivial) (fun listed _ _ j hj => hlt listed j hj) (Array.getElem?_eq_some_iff.1 h0).1
      (fun listed' a' hL j hj => by rw [hL.1] at hj; cases hj) l.length listed a trivial (Region.free_spec h0 hf) hr' hy
      (calm_all hsel l (k + 1) _ _ (fun j => by have := hl (j + 1); simpa [Nat.add_assoc, Nat.add_comm 1 j] using this) hB' hK)
/-- A drawn region, its last operations (from number n on) one behind the other. -/
theorem wp_region_calm_tail {id : Nat} {Q : Exit → Act → World → Prop} {a : Act} {w : World} {l : List Oper} (n : Nat) (S : World → Prop) (hm : P.follows .mixedOrders = true) (hB : Region.lexTailB .any l.toArray n = true) (hS : S w.drew)
    (h : SureAll P l.toArray S (fun a' => ∀ w', S w' → wpList P l.toArray Q (l.drop n) a' w') (l.take n) a) : (Code.region id l.toArray true).wp P Q a w := by
  simp only [Region.lexTailB, Bool.and_eq_true, decide_eq_true_eq] at hB
  obtain ⟨⟨⟨⟨hsel, hn⟩, hs⟩, hc⟩, hlex⟩ := hB
  have hn' : n < l.length := by simpa using hn
  have htl : (l.take n).length = n := by simp; omega
  have hdl : (l.drop n).length = l.toArray.size - n := by simp
  have inv0 : HeadInv .any l.toArray n (Array.replicate l.toArray.size false) :=
    ⟨by simp, fun j oj _ hl => (by rw [getD_replicate_false] at hl; cases hl), fun t _ ht => getD_in (by simpa using ht) (getD_replicate_false _ _)⟩
  have H := calm_tail (md := .any) (g := l.toArray.size - n) hsel hs hc hn (l.take n) 0 _ a (fun j hj => by
    have hj' : j < n := by rw [htl] at hj; exact hj
    simp [hj']) (by simpa using htl) inv0 (by rw [htl]; exact hlex) h
  refine wp_region_any hm ?_
  have := Calm.any (Q := Q) (g := l.toArray.size - n) (fun listed a' w' hL hw => by
    have := wpAny_of_seq (md := .any) (Q' := Q) (l.drop n) n listed a' w' (fun j => by simp [List.getElem?_drop]) (by rw [hdl]; exact hL.1) (hL.2 w' hw)
    rwa [hdl] at this) _ _ _ _ H hS
  rw [htl, show n + (l.toArray.size - n) = l.toArray.size by omega] at this
  exact this
/-- A drawn region, each of its operations sure. -/
theorem wp_region_calm {id : Nat} {Q : Exit → Act → World → Prop} {a : Act} {w : World} {l : List Oper} (S : World → Prop) (hm : P.follows .mixedOrders = true) (hB : Region.lexB .any l.toArray = true) (hS : S w.drew)
    (h : SureAll P l.toArray S (fun a' => ∀ w', S w' → Q .normal a' w') l a) : (Code.region id l.toArray true).wp P Q a w := by
  simp only [Region.lexB, Bool.and_eq_true] at hB
  have H := calm_all (md := .any) hB.1 l 0 (Array.replicate l.toArray.size false) a (by simp) (by simpa using hB.2) h
  refine wp_region_any hm ?_
  have := Calm.any (Q := Q) (g := 0) (fun listed a' w' hL hw => ⟨hL.1, hL.2 w' hw⟩) _ _ _ _ H hS
  simpa using this
theorem calm_tail_b {id : Nat} {Q : Exit → Act → World → Prop} {a : Act} {w : World} {l : List Oper} (n : Nat) (hm : P.follows .mixedOrders = true) (hB : Region.lexTailB .any l.toArray n = true)
    (h : SureAll P l.toArray (Below w.heap.size w) (fun a' => ∀ w', Below w.heap.size w w' → wpList P l.toArray Q (l.drop n) a' w') (l.take n) a) : (Code.region id l.toArray true).wp P Q a w :=
  wp_region_calm_tail n _ hm hB (Below.refl _ _).drew h
theorem calm_b {id : Nat} {Q : Exit → Act → World → Prop} {a : Act} {w : World} {l : List Oper} (hm : P.follows .mixedOrders = true) (hB : Region.lexB .any l.toArray = true)
    (h : SureAll P l.toArray (Below w.heap.size w) (fun a' => ∀ w', Below w.heap.size w w' → Q .normal a' w') l a) : (Code.region id l.toArray true).wp P Q a w :=
  wp_region_calm _ hm hB (Below.refl _ _).drew h
end
end Go.Proofs.Ytpeojnknfonmlaa

/- A region whose order is drawn and that holds calls which make memory of their own: walked once, in the order of the text. Each call's answer is told by a relation that does not hang on the others. -/
set_option linter.unusedVariables false
namespace Go.Proofs.Ytpeojnknfonmlaa
open Go.RowKit
section
variable {P : Program} {ops : Array Oper} {md : Region.Mode}
/-- all that stood is as it was -/
def Le (w w' : World) : Prop := Below w.heap.size w w'
theorem Le.refl (w : World) : Le w w := Below.refl _ _
theorem Le.trans {a b c : World} (h : Le a b) (k : Le b c) : Le a c := b_step h k
/-- what running an operation comes to, from world w on: a value and a later world of which R speaks -/
def Ran (P : Program) (R : Value → World → Prop) (w : World) : Result Next → Prop
  | .ok (.value u) w' => Le w w' ∧ R u w'
  | .ok (.enter f args) w' => Calls P f args w' fun e w'' => ∃ v, e = .returned v ∧ Le w w'' ∧ R v w''
  | _ => False
@[go_sem] theorem ran_value (R : Value → World → Prop) (w : World) (u : Value) (w' : World) : Ran P R w (.ok (.value u) w') = (Le w w' ∧ R u w') := rfl
@[go_sem] theorem ran_enter (R : Value → World → Prop) (w : World) (f : FuncId) (args : Array Value) (w' : World) : Ran P R w (.ok (.enter f args) w') = Calls P f args w' fun e w'' => ∃ v, e = .returned v ∧ Le w w'' ∧ R v w'' := rfl
theorem Ran.some {R : Value → World → Prop} {w : World} {r : Result Next} (h : Ran P R w r) : ∃ v w', Le w w' ∧ R v w' := by
  match r, h with
  | .ok (.value u) w', h => exact ⟨u, w', h⟩
  | .ok (.enter f args) w', h =>
    obtain ⟨e, w', fr, ⟨v, _, h2⟩, _⟩ := h []
    exact ⟨v, w', h2⟩
abbrev Facts := Nat → World → Prop
def setF (F : Facts) (i : Nat) (p : World → Prop) : Facts := fun d => if d = i then p else F d
/-- what is known of those an operation waits for -/
def Deps (md : Region.Mode) (F : Facts) (o : Oper) (w : World) : Prop := ∀ e ∈ o.after, Region.binds md e = true → F e.on w
/-- what is known behind it -/
def Known (Φ : Nat → Value → World → Prop) (md : Region.Mode) (F : Facts) (i : Nat) (o : Oper) (v : Value) (w : World) : Prop := Deps md F o w ∧ ∃ w0, Le w0 w ∧ Φ i v w0
def Mono (F : Facts) : Prop := ∀ d w w', Le w w' → F d w → F d w'
theorem Deps.mono {F : Facts} {o : Oper} {w w' : World} (hF : Mono F) (h : Deps md F o w) (hl : Le w w') : Deps md F o w' := fun e he hb => hF _ _ _ hl (h e he hb)
theorem Mono.deps {F : Facts} (hF : Mono F) (i : Nat) (o : Oper) : Mono (setF F i (Deps md F o)) := fun d w w' hl h => by
  unfold setF at *; split
  · rename_i e; rw [if_pos e] at h; exact h.mono hF hl
  · rename_i e; rw [if_neg e] at h; exact hF _ _ _ hl h
theorem Mono.known {F : Facts} (hF : Mono F) (Φ : Nat → Value → World → Prop) (i : Nat) (o : Oper) (v : Value) : Mono (setF F i (Known Φ md F i o v)) := fun d w w' hl h => by
  unfold setF at *; split
  · rename_i e; rw [if_pos e] at h
    obtain ⟨h1, w0, h2, h3⟩ := h
    exact ⟨h1.mono hF hl, w0, h2.trans hl, h3⟩
  · rename_i e; rw [if_neg e] at h; exact hF _ _ _ hl h
variable (P md ops) (B : World → Prop) (Φ : Nat → Value → World → Prop) (Rl : Nat → Bool)
/-- it yields v, wherever what it waits for is known, and leaves the world -/
def Plain (o : Oper) (v : Value) (F : Facts) (a : Act) : Prop :=
  (Region.wanted o (yielded ops a.tmps) = true ∧ ∀ w, B w → Deps md F o w → (execOp a.eval o).run P w = .ok (.value v) w) ∨ (Region.wanted o (yielded ops a.tmps) = false ∧ v = undef)
def Told (i : Nat) (o : Oper) (F : Facts) (a : Act) : Prop :=
  Region.wanted o (yielded ops a.tmps) = true ∧ ∀ w, B w → Deps md F o w → Ran P (Φ i) w ((execOp a.eval o).run P w)
def GR (n : Nat) (L : Array Bool → Act → Facts → Prop) : Nat → Array Bool → Act → Facts → Prop
  | 0, listed, a, F => L listed a F
  | f + 1, listed, a, F => Region.ready md ops listed ≠ [] ∧ ∀ i ∈ Region.ready md ops listed, i < n ∧ ∃ o, ops[i]? = some o ∧
      ((Rl i = false ∧ ∃ v, Plain P ops md B o v F a ∧ GR n L f (listed.setIfInBounds i true) (a.put o.dst v) (setF F i (Deps md F o))) ∨
       (Rl i = true ∧ Told P ops md B Φ i o F a ∧ ∀ v, (∃ w, B w ∧ ∀ d, setF F i (Known Φ md F i o v) d w) → GR n L f (listed.setIfInBounds i true) (a.put o.dst v) (setF F i (Known Φ md F i o v))))
variable {P md ops B Φ Rl}
theorem Plain.same {o : Oper} {v : Value} {F F' : Facts} {a a' : Act} (h : Plain P ops md B o v F a) (he : execOp a'.eval o = execOp a.eval o) (hw : Region.wanted o (yielded ops a'.tmps) = Region.wanted o (yielded ops a.tmps)) (hF : ∀ w, Deps md F' o w → Deps md F o w) : Plain P ops md B o v F' a' := by
  unfold Plain at *; rw [he, hw]; exact h.imp (fun ⟨h1, h2⟩ => ⟨h1, fun w hb hd => h2 w hb (hF w hd)⟩) id
theorem Told.same {i : Nat} {o : Oper} {F F' : Facts} {a a' : Act} (h : Told P ops md B Φ i o F a) (he : execOp a'.eval o = execOp a.eval o) (hw : Region.wanted o (yielded ops a'.tmps) = Region.wanted o (yielded ops a.tmps)) (hF : ∀ w, Deps md F' o w → Deps md F o w) : Told P ops md B Φ i o F' a' := by
  unfold Told at *; rw [he, hw]; exact ⟨h.1, fun w hb hd => h.2 w hb (hF w hd)⟩
theorem Plain.one {o : Oper} {v v' : Value} {F : Facts} {a : Act} {w : World} (h : Plain P ops md B o v F a) (h' : Plain P ops md B o v' F a) (hb : B w) (hd : Deps md F o w) : v = v' := by
  rcases h with ⟨h1, h2⟩ | ⟨h1, rfl⟩ <;> rcases h' with ⟨h3, h4⟩ | ⟨h3, rfl⟩
  · have := (h2 w hb hd).symm.trans (h4 w hb hd)
    injection this with this
    injection this
  · rw [h1] at h3; cases h3
  · rw [h1] at h3; cases h3
  · rfl
theorem deps_set {F : Facts} {i : Nat} {p : World → Prop} {o : Oper} (hno : ∀ e ∈ o.after, Region.binds md e = true → e.on ≠ i) (w : World) : Deps md (setF F i p) o w ↔ Deps md F o w := by
  constructor
  · intro h e he hb; have := h e he hb; unfold setF at this; rwa [if_neg (hno e he hb)] at this
  · intro h e he hb; unfold setF; rw [if_neg (hno e he hb)]; exact h e he hb
theorem setF_comm {F : Facts} {i j : Nat} (p q : World → Prop) (h : i ≠ j) : setF (setF F i p) j q = setF (setF F j q) i p := by
  funext d; unfold setF
  by_cases h1 : d = i <;> by_cases h2 : d = j <;> simp_all
theorem GR.any {n g : Nat} {L : Array Bool → Act → Facts → Prop} {Q : Exit → Act → World → Prop} (hB : ∀ w w', Le w w' → B w → B w')
    (hL : ∀ listed a F w, L listed a F → B w → (∀ d, F d w) → wpAny P md ops Q g listed a w) :
    ∀ (f : Nat) (listed : Array Bool) (a : Act) (F : Facts) (w : World), Mono F → GR P ops md B Φ Rl n L f listed a F → B w → (∀ d, F d w) → wpAny P md ops Q (f + g) listed a w
  | 0, listed, a, F, w, _, h, hb, hF => by rw [Nat.zero_add]; exact hL _ _ _ _ h hb hF
  | f + 1, listed, a, F, w, hm, h, hb, hF => by
    rw [show f + 1 + g = (f + g) + 1 by omega]
    refine ⟨fun h0 => absurd h0 h.1, fun i hi => ?_⟩
    obtain ⟨_, o, ho, h1⟩ := h.2 i hi
    have hd : Deps md F o w := fun e _ _ => hF _
    unfold wpOp
    simp only [ho]
    rcases h1 with ⟨_, v, hp, hr⟩ | ⟨_, ht, hr⟩
    · have key : wpAny P md ops Q (f + g) (listed.setIfInBounds i true) (a.put o.dst v) w := GR.any hB hL f _ _ _ _ (hm.deps i o) hr hb fun d => by
        unfold setF; split
        · exact hd
        · exact hF d
      rcases hp with ⟨h2, h3⟩ | ⟨h2, rfl⟩
      · rw [if_pos h2]
        refine .inl ?_
        unfold Oper.wp
        rw [h3 w hb hd]
        exact key
      · rw [if_neg (by simp [h2])]; exact key
    · have key : ∀ v w', Le w w' → Φ i v w' → wpAny P md ops Q (f + g) (listed.setIfInBounds i true) (a.put o.dst v) w' := fun v w' hl hφ => by
        have hk : Known Φ md F i o v w' := ⟨hd.mono hm hl, w', Le.refl _, hφ⟩
        have hall : ∀ d, setF F i (Known Φ md F i o v) d w' := fun d => by
          unfold setF; split
          · exact hk
          · exact hm _ _ _ hl (hF d)
        exact GR.any hB hL f _ _ _ _ (hm.known Φ i o v) (hr v ⟨w', hB _ _ hl hb, hall⟩) (hB _ _ hl hb) hall
      rw [if_pos ht.1]
      refine .inl ?_
      have h3 := ht.2 w hb hd
      unfold Oper.wp
      generalize (execOp a.eval o).run P w = r at *
      match r, h3 with
      | .ok (.value u) w', h3 => exact key _ _ h3.1 h3.2
      | .ok (.enter f' args) w', h3 => exact Calls.mono h3 fun e w'' ⟨v, he, hl, hφ⟩ => by subst he; exact key _ _ hl hφ
/-- the part of one operation, i, at a state -/
def Part (n : Nat) (i : Nat) (o : Oper) (F : Facts) (a : Act) (X : Value → Facts → Prop) : Prop :=
  (Rl i = false ∧ ∃ v, Plain P ops md B o v F a ∧ X v (setF F i (Deps md F o))) ∨ (Rl i = true ∧ Told P ops md B Φ i o F a ∧ ∀ v, (∃ w, B w ∧ ∀ d, setF F i (Known Φ md F i o v) d w) → X v (setF F i (Known Φ md F i o v)))
theorem GR.first {n i : Nat} {oi : Oper} {L : Array Bool → Act → Facts → Prop} (hBm : ∀ w w', Le w w' → B w → B w') (hi : ops[i]? = some oi) (hsel : ∀ (j : Nat) (o : Oper) cs b, ops[j]? = some o → o.op ≠ .select cs b)
    (I : Array Bool → Prop) (hI : ∀ listed j, I listed → j ∈ Region.ready md ops listed → j < n → I (listed.setIfInBounds j true))
    (hwait : ∀ listed, I listed → listed.getD i true = false → ∀ j ∈ Region.ready md ops listed, j < n) (hin : i < n)
    (hdone : ∀ listed a F, L listed a F → ∀ j ∈ Region.ready md ops listed, n ≤ j) :
    ∀ (f : Nat) (listed : Array Bool) (a : Act) (F : Facts) (w : World), Mono F → (∀ d, listed.getD d true = false → ∀ w, F d w) → B w → (∀ d, F d w) → I listed → (∀ j oj, ops[j]? = some oj → j ≠ i → listed.getD j true = false → (∀ e ∈ oj.after, Region.binds md e = true → e.on ≠ i) → oi.apart ops oj = true) →
      i ∈ Region.ready md ops listed → Part (P := P) (ops := ops) (md := md) (B := B) (Φ := Φ) (Rl := Rl) n i oi F a (fun v F' => GR P ops md B Φ Rl n L f (listed.setIfInBounds i true) (a.put oi.dst v) F') → GR P ops md B Φ Rl n L (f + 1) listed a F := by
  intro f
  induction f with
  | zero =>
    intro listed a F w hm hU hb hF hinv _ hr H
    refine ⟨fun h => (by rw [h] at hr; cases hr), fun j hj => ?_⟩
    have hjn := hwait listed hinv (mem_ready.1 hr).1 j hj
    refine ⟨hjn, ?_⟩
    by_cases hji : j = i
    · subst hji; exact ⟨oi, hi, H⟩
    · exfalso
      have : ∃ a' F', L (listed.setIfInBounds i true) a' F' := by
        rcases H with ⟨_, v, _, h⟩ | ⟨_, ht, h⟩
        · exact ⟨_, _, h⟩
        · obtain ⟨v, w', hl, hφ⟩ := (ht.2 w hb fun e _ _ => hF _).some
          exact ⟨_, _, h v ⟨w', hBm _ _ hl hb, fun d => by
            unfold setF; split
            · exact ⟨fun e _ _ => hm _ _ _ hl (hF _), w', Le.refl _, hφ⟩
            · exact hm _ _ _ hl (hF d)⟩⟩
      obtain ⟨a', F', h⟩ := this
      have := hdone _ _ _ h j (ready_mono hj hji)
      omega
  | succ f ih =>
    intro listed a F w hm hU hb hF hinv hfree hr H
    have hun := (mem_ready.1 hr).1
    refine ⟨fun h => (by rw [h] at hr; cases hr), fun j hj => ?_⟩
    have hjn := hwait listed hinv hun j hj
    refine ⟨hjn, ?_⟩
    by_cases hji : j = i
    · subst hji; exact ⟨oi, hi, H⟩
    · obtain ⟨_, oj, hoj, hall⟩ := mem_ready.1 hj
      have hnot : ∀ e ∈ oj.after, Region.binds md e = true → e.on ≠ i := fun e he hbd heq => by
        have h1 := hall e he hbd
        rw [heq, getD_both hun] at h1
        cases h1
      obtain ⟨oi', hoi', halli⟩ := (mem_ready.1 hr).2
      obtain rfl : oi' = oi := Option.some.inj (hoi'.symm.trans hi)
      have hnoti : ∀ e ∈ oi'.after, Region.binds md e = true → e.on ≠ j := fun e he hbd heq => by
        have h1 := halli e he hbd
        rw [heq, getD_both (mem_ready.1 hj).1] at h1
        cases h1
      obtain ⟨p1, p2, p3⟩ := Oper.apart_spec (hfree j oj hoj hji (mem_ready.1 hj).1 hnot)
      have ej : ∀ v, execOp (a.put oi'.dst v).eval oj = execOp a.eval oj := fun v => execOp_put oj (fun cs b => hsel j oj cs b hoj) a oi'.dst v p1
      have wj : ∀ v, Region.wanted oj (yielded ops (a.put oi'.dst v).tmps) = Region.wanted oj (yielded ops a.tmps) := fun v => wanted_put oj a oi'.dst v p1
      have ei : ∀ v, execOp (a.put oj.dst v).eval oi' = execOp a.eval oi' := fun v => execOp_put oi' (fun cs b => hsel i oi' cs b hi) a oj.dst v p3
      have wi : ∀ v, Region.wanted oi' (yielded ops (a.put oj.dst v).tmps) = Region.wanted oi' (yielded ops a.tmps) := fun v => wanted_put oi' a oj.dst v p3
      have hdj : Deps md F oj w := fun e _ _ => hF _
      -- j's part at a state in which i has come up goes over to the state without
      have back : ∀ (vi : Value) (p : World → Prop), GR P ops md B Φ Rl n L (f + 1) (listed.setIfInBounds i true) (a.put oi'.dst vi) (setF F i p) →
          (Rl j = false ∧ ∃ v, Plain P ops md B oj v F a ∧ GR P ops md B Φ Rl n L f ((listed.setIfInBounds i true).setIfInBounds j true) ((a.put oi'.dst vi).put oj.dst v) (setF (setF F i p) j (Deps md F oj))) ∨
          (Rl j = true ∧ Told P ops md B Φ j oj F a ∧ ∀ v, (∃ w, B w ∧ ∀ d, setF (setF F i p) j (Known Φ md F j oj v) d w) → GR P ops md B Φ Rl n L f ((listed.setIfInBounds i true).setIfInBounds j true) ((a.put oi'.dst vi).put oj.dst v) (setF (setF F i p) j (Known Φ md F j oj v))) := by
        intro vi p h
        have hD : Deps md (setF F i p) oj = Deps md F oj := funext fun w => propext (deps_set hnot w)
        have hK : ∀ v, Known Φ md (setF F i p) j oj v = Known Φ md F j oj v := fun v => by unfold Known; rw [hD]
        obtain ⟨_, oj', hoj', h2⟩ := h.2 j (ready_mono hj hji)
        obtain rfl : oj' = oj := Option.some.inj (hoj'.symm.trans hoj)
        rcases h2 with ⟨r, v, h3, h4⟩ | ⟨r, h3, h4⟩
        · exact .inl ⟨r, v, h3.same (ej vi).symm (wj vi).symm (fun w h => by rwa [hD]), by rwa [hD] at h4⟩
        · refine .inr ⟨r, h3.same (ej vi).symm (wj vi).symm (fun w h => by rwa [hD]), fun v hv => ?_⟩
          have := h4 v (by rwa [hK])
          rwa [hK] at this
      have hDi : ∀ p, Deps md (setF F j p) oi' = Deps md F oi' := fun p => funext fun w => propext (deps_set hnoti w)
      have hKi : ∀ p v, Known Φ md (setF F j p) i oi' v = Known Φ md F i oi' v := fun p v => by unfold Known; rw [hDi]
      have freej : ∀ k ok, ops[k]? = some ok → k ≠ i → (listed.setIfInBounds j true).getD k true = false → (∀ e ∈ ok.after, Region.binds md e = true → e.on ≠ i) → oi'.apart ops ok = true := fun k ok hk hki hunk hno => by
        refine hfree k ok hk hki ?_ hno
        by_cases hjk : j = k
        · subst hjk; exact (mem_ready.1 hj).1
        · rw [getD_set_ne true hjk] at hunk; exact hunk
      refine ⟨oj, hoj, ?_⟩
      -- what i asks, behind j
      have go : ∀ (vj : Value) (p : World → Prop) (w' : World), Mono (setF F j p) → B w' → (∀ d, setF F j p d w') →
          ((Rl i = false ∧ ∃ v, Plain P ops md B oi' v F a ∧ GR P ops md B Φ Rl n L f ((listed.setIfInBounds i true).setIfInBounds j true) ((a.put oi'.dst v).put oj.dst vj) (setF (setF F i (Deps md F oi')) j p)) ∨
            (Rl i = true ∧ Told P ops md B Φ i oi' F a ∧ ∀ v, (∃ w, B w ∧ ∀ d, setF (setF F j p) i (Known Φ md F i oi' v) d w) → GR P ops md B Φ Rl n L f ((listed.setIfInBounds i true).setIfInBounds j true) ((a.put oi'.dst v).put oj.dst vj) (setF (setF F i (Known Φ md F i oi' v)) j p))) →
          GR P ops md B Φ Rl n L (f + 1) (listed.setIfInBounds j true) (a.put oj.dst vj) (setF F j p) := by
        intro vj p w' hm' hb' hF' h
        refine ih _ _ _ w' hm' (fun d hd w => ?_) hb' hF' (hI _ _ hinv hj hjn) freej (ready_mono hr (Ne.symm hji)) ?_
        · by_cases hjd : j = d
          · subst hjd
            exfalso
            rcases Nat.lt_or_ge j listed.size with h' | h'
            · simp [h'] at hd
            · have := (mem_ready.1 hj).1
              simp [Array.getElem?_eq_none h'] at this
          · rw [getD_set_ne true hjd] at hd
            unfold setF; rw [if_neg (Ne.symm hjd)]; exact hU d hd w
        rcases h with ⟨r, vi, h3, h4⟩ | ⟨r, h3, h4⟩
        · refine .inl ⟨r, vi, h3.same (ei vj) (wi vj) (fun w h => by rwa [hDi] at h), ?_⟩
          show GR P ops md B Φ Rl n L f _ _ _
          rw [hDi, Array.setIfInBounds_comm _ _ hji, ← Act.put_comm a vi vj p2, ← setF_comm _ _ (Ne.symm hji)]
          exact h4
        · refine .inr ⟨r, h3.same (ei vj) (wi vj) (fun w h => by rwa [hDi] at h), fun vi hvi => ?_⟩
          rw [hKi] at hvi ⊢
          show GR P ops md B Φ Rl n L f _ _ _
          rw [Array.setIfInBounds_comm _ _ hji, ← Act.put_comm a vi vj p2, ← setF_comm _ _ (Ne.symm hji)]
          exact h4 vi hvi
      have hFj : ∀ w', Le w w' → ∀ p : World → Prop, p w' → ∀ d, setF F j p d w' := fun w' hl p hp d => by
        unfold setF; split
        · exact hp
        · exact hm _ _ _ hl (hF d)
      have inhab : Rl i = true → Told P ops md B Φ i oi' F a → ∃ v, ∃ w', B w' ∧ ∀ d, setF F i (Known Φ md F i oi' v) d w' := fun _ ht => by
        obtain ⟨v, w', hl, hφ⟩ := (ht.2 w hb fun e _ _ => hF _).some
        refine ⟨v, w', hBm _ _ hl hb, fun d => ?_⟩
        unfold setF; split
        · exact ⟨fun e _ _ => hm _ _ _ hl (hF _), w', Le.refl _, hφ⟩
        · exact hm _ _ _ hl (hF d)
      have forget : ∀ p q w', (∀ d, setF (setF F j p) i q d w') → ∀ d, setF F i q d w' := fun p q w' h d => by
        have h1 := h d
        unfold setF at h1 ⊢
        by_cases hd : d = i
        · rw [if_pos hd] at h1 ⊢; exact h1
        · rw [if_neg hd] at h1 ⊢
          by_cases hd2 : d = j
          · subst hd2; exact hU _ (mem_ready.1 hj).1 w'
          · rw [if_neg hd2] at h1; exact h1
      cases hRj : Rl j with
      | false =>
        refine .inl ⟨rfl, ?_⟩
        rcases H with ⟨r, vi, h3, h4⟩ | ⟨r, h3, h4⟩
        · rcases back vi _ h4 with ⟨_, vj, h5, h6⟩ | ⟨r5, _⟩
          · exact ⟨vj, h5, go vj _ w (hm.deps j oj) hb (hFj w (Le.refl _) _ hdj) (.inl ⟨r, vi, h3, h6⟩)⟩
          · rw [hRj] at r5; cases r5
        · obtain ⟨v0, hv0⟩ := inhab r h3
          rcases back v0 _ (h4 v0 hv0) with ⟨_, vj, h5, h6⟩ | ⟨r5, _⟩
          · refine ⟨vj, h5, go vj _ w (hm.deps j oj) hb (hFj w (Le.refl _) _ hdj) (.inr ⟨r, h3, fun vi hvi => ?_⟩)⟩
            obtain ⟨w2, hB2, hF2⟩ := hvi
            rcases back vi _ (h4 vi ⟨w2, hB2, forget _ _ _ hF2⟩) with ⟨_, vj', h7, h8⟩ | ⟨r5, _⟩
            · obtain rfl := h5.one h7 hb hdj
              exact h8
            · rw [hRj] at r5; cases r5
          · rw [hRj] at r5; cases r5
      | true =>
        have hT : Told P ops md B Φ j oj F a := by
          rcases H with ⟨r, vi, h3, h4⟩ | ⟨r, h3, h4⟩
          · rcases back vi _ h4 with ⟨r5, _⟩ | ⟨_, h5, _⟩
            · rw [hRj] at r5; cases r5
            · exact h5
          · obtain ⟨v0, hv0⟩ := inhab r h3
            rcases back v0 _ (h4 v0 hv0) with ⟨r5, _⟩ | ⟨_, h5, _⟩
            · rw [hRj] at r5; cases r5
            · exact h5
        refine .inr ⟨rfl, hT, fun vj hvj => ?_⟩
        obtain ⟨w', hb', hF'⟩ := hvj
        refine go vj _ w' (hm.known Φ j oj vj) hb' hF' ?_
        rcases H with ⟨r, vi, h3, h4⟩ | ⟨r, h3, h4⟩
        · rcases back vi _ h4 with ⟨r5, _⟩ | ⟨_, _, h6⟩
          · rw [hRj] at r5; cases r5
          · refine .inl ⟨r, vi, h3, h6 vj ⟨w', hb', fun d => ?_⟩⟩
            have h1 := hF' d
            unfold setF at h1 ⊢
            by_cases hd : d = j
            · rw [if_pos hd] at h1 ⊢; exact h1
            · rw [if_neg hd] at h1 ⊢
              by_cases hd2 : d = i
              · rw [if_pos hd2]
                intro e he hbd
                have h2 := hF' e.on
                unfold setF at h2
                rwa [if_neg (hnoti e he hbd)] at h2
              · rw [if_neg hd2]; exact h1
        · refine .inr ⟨r, h3, fun vi hvi => ?_⟩
          obtain ⟨w2, hB2, hF2⟩ := hvi
          rcases back vi _ (h4 vi ⟨w2, hB2, forget _ _ _ hF2⟩) with ⟨r5, _⟩ | ⟨_, _, h6⟩
          · rw [hRj] at r5; cases r5
          · refine h6 vj ⟨w2, hB2, fun d => ?_⟩
            rw [setF_comm _ _ (Ne.symm hji)]
            exact hF2 d
variable (P md ops B Φ Rl) in
/-- the operations of a list from number k on, in the order of the text; then L -/
def RelAll (L : Act → Facts → Prop) : Nat → List Oper → Act → Facts → Prop
  | _, [], a, F => L a F
  | k, o :: l, a, F =>
    (Rl k = false ∧ ∃ v, Plain P ops md B o v F a ∧ RelAll L (k + 1) l (a.put o.dst v) (setF F k (Deps md F o))) ∨
    (Rl k = true ∧ Told P ops md B Φ k o F a ∧ ∀ v, (∃ w, B w ∧ ∀ d, setF F k (Known Φ md F k o v) d w) → RelAll L (k + 1) l (a.put o.dst v) (setF F k (Known Φ md F k o v)))
theorem RelAll.weaker {L : Act → Facts → Prop} (hL : ∀ a F F', (∀ d w, F d w → F' d w) → L a F' → L a F) : ∀ (l : List Oper) (k : Nat) (a : Act) (F F' : Facts), (∀ d w, F d w → F' d w) → RelAll P ops md B Φ Rl L k l a F' → RelAll P ops md B Φ Rl L k l a F
  | [], _, a, F, F', hF, h => hL a F F' hF h
  | o :: l, k, a, F, F', hF, h => by
    have hD : ∀ w, Deps md F o w → Deps md F' o w := fun w hd e he hb => hF _ _ (hd e he hb)
    have hK : ∀ v w, Known Φ md F k o v w → Known Φ md F' k o v w := fun v w h => ⟨hD w h.1, h.2⟩
    have hset : ∀ p p' : World → Prop, (∀ w, p w → p' w) → ∀ d w, setF F k p d w → setF F' k p' d w := fun p p' hp d w h => by
      unfold setF at *; split
      · rename_i e; rw [if_pos e] at h; exact hp w h
      · rename_i e; rw [if_neg e] at h; exact hF _ _ h
    rcases h with ⟨r, v, h1, h2⟩ | ⟨r, h1, h2⟩
    · exact .inl ⟨r, v, h1.same rfl rfl hD, RelAll.weaker hL l _ _ _ _ (hset _ _ hD) h2⟩
    · exact .inr ⟨r, h1.same rfl rfl hD, fun v ⟨w, hb, hw⟩ => RelAll.weaker hL l _ _ _ _ (hset _ _ (hK v)) (h2 v ⟨w, hb, fun d => hset _ _ (hK v) d w (hw d)⟩)⟩
theorem set_true {listed : Array Bool} {k d : Nat} {F : Facts} {p : World → Prop} (hk : listed.getD k true = false) (hU : ∀ d, listed.getD d true = false → ∀ w, F d w) (hd : (listed.setIfInBounds k true).getD d true = false) (w : World) : setF F k p d w := by
  by_cases h : k = d
  · subst h
    exfalso
    rcases Nat.lt_or_ge k listed.size with h' | h'
    · simp [h'] at hd
    · simp [Array.getElem?_eq_none h'] at hk
  · rw [getD_set_ne true h] at hd
    unfold setF; rw [if_neg (Ne.symm h)]; exact hU d hd w
theorem set_all {F : Facts} {k : Nat} {p : World → Prop} {w : World} (hF : ∀ d, F d w) (hp : p w) : ∀ d, setF F k p d w := fun d => by
  unfold setF; split
  · exact hp
  · exact hF d
theorem rel_to_GR {n : Nat} {L : Array Bool → Act → Facts → Prop} {Lq : Act → Facts → Prop} (hBm : ∀ w w', Le w w' → B w → B w') (hsel : Region.noSelect ops = true)
    (I : Array Bool → Prop) (hI : ∀ listed j, I listed → j ∈ Region.ready md ops listed → j < n → I (listed.setIfInBounds j true))
    (hwait : ∀ listed i, I listed → i < n → listed.getD i true = false → ∀ j ∈ Region.ready md ops listed, j < n) (hdone : ∀ listed a F, L listed a F → ∀ j ∈ Region.ready md ops listed, n ≤ j)
    (chk : Nat → Nat → Array Bool → Bool) (hchk : ∀ f k listed, chk (f + 1) k listed = true → (Region.ready md ops listed).contains k = true ∧ Region.free md ops listed k = true ∧ chk f (k + 1) (listed.setIfInBounds k true) = true)
    (hend : ∀ k listed a F, k = n → chk 0 k listed = true → Lq a F → L listed a F) :
    ∀ (l : List Oper) (k : Nat) (listed : Array Bool) (a : Act) (F : Facts) (w : World), (∀ j, j < l.length → l[j]? = ops[k + j]?) → k + l.length = n → I listed → chk l.length k listed = true → Mono F → (∀ d, listed.getD d true = false → ∀ w, F d w) → B w → (∀ d, F d w) →
    RelAll P ops md B Φ Rl Lq k l a F → GR P ops md B Φ Rl n L l.length listed a F
  | [], k, listed, a, F, w, _, hk, _, hB, _, _, _, _, h => hend k listed a F (by simpa using hk) (by simpa using hB) h
  | o :: l, k, listed, a, F, w, hl, hk, inv, hB, hm, hU, hb, hF, h => by
    have h0 : ops[k]? = some o := by simpa using (hl 0 (by simp)).symm
    obtain ⟨hr, hf, hB'⟩ := hchk l.length k listed (by simpa using hB)
    have hkn : k < n := by simp only [List.length_cons] at hk; omega
    have hr' : k ∈ Region.ready md ops listed := by simpa using hr
    have hl' : ∀ j, j < l.length → l[j]? = ops[k + 1 + j]? := fun j hj => by have := hl (j + 1) (by simp; omega); simpa [Nat.add_assoc, Nat.add_comm 1 j] using this
    have hk' : k + 1 + l.length = n := by simp only [List.length_cons] at hk; omega
    refine GR.first hBm h0 (Region.noSelect_spec hsel) I hI (fun listed hi hun j hj => hwait listed k hi hkn hun j hj) hkn hdone l.length listed a F w hm hU hb hF inv (Region.free_spec h0 hf) hr' ?_
    have hdw : Deps md F o w := fun e _ _ => hF _
    rcases h with ⟨r, v, h1, h2⟩ | ⟨r, h1, h2⟩
    · exact .inl ⟨r, v, h1, rel_to_GR hBm hsel I hI hwait hdone chk hchk hend l (k + 1) _ _ _ w hl' hk' (hI _ _ inv hr' hkn) hB' (hm.deps k o) (fun d hd w => set_true (mem_ready.1 hr').1 hU hd w) hb (set_all hF hdw) h2⟩
    · refine .inr ⟨r, h1, fun v hv => ?_⟩
      obtain ⟨w', hb', hF'⟩ := id hv
      exact rel_to_GR hBm hsel I hI hwait hdone chk hchk hend l (k + 1) _ _ _ w' hl' hk' (hI _ _ inv hr' hkn) hB' (hm.known Φ k o v) (fun d hd w => set_true (mem_ready.1 hr').1 hU hd w) hb' hF' (h2 v hv)
/-- the told ones by number -/
abbrev Tell := List (Nat × (Value → World → Prop))
def Tell.is (T : Tell) (i : Nat) : Bool := T.any (·.1 == i)
def Tell.at_ (T : Tell) (i : Nat) (v : Value) (w : World) : Prop := ∀ x ∈ T, x.1 = i → x.2 v w
/-- A drawn region. -/
theorem rel_b {id : Nat} {Q : Exit → Act → World → Prop} {a : Act} {w : World} {l : List Oper} (T : Tell) (hm : P.follows .mixedOrders = true) (hB : Region.lexB .any l.toArray = true)
    (h : RelAll P l.toArray .any (Le w) T.at_ T.is (fun a' F => ∀ w', Le w w' → (∀ d, F d w') → Q .normal a' w') 0 l a (fun _ _ => True)) : (Code.region id l.toArray true).wp P Q a w := by
  simp only [Region.lexB, Bool.and_eq_true] at hB
  have H := rel_to_GR (n := l.toArray.size) (L := fun listed a F => Region.ready .any l.toArray listed = [] ∧ ∀ w', Le w w' → (∀ d, F d w') → Q .normal a w') (Lq := fun a' F => ∀ w', Le w w' → (∀ d, F d w') → Q .normal a' w')
    (fun w1 w2 h1 h2 => Le.trans h2 h1) hB.1 (fun _ => True) (fun _ _ _ _ _ => trivial)
    (fun listed i _ _ _ j hj => by obtain ⟨_, o, ho, _⟩ := mem_ready.1 hj; exact (Array.getElem?_eq_some_iff.1 ho).1) (fun listed a F hL j hj => by rw [hL.1] at hj; cases hj)
    (Region.lexFrom .any l.toArray) (fun f k listed h => by simp only [Region.lexFrom, Bool.and_eq_true] at h; exact ⟨h.1.1, h.1.2, h.2⟩) (fun k listed a F _ h hq => ⟨by simpa [Region.lexFrom] using h, hq⟩)
    l 0 (Array.replicate l.toArray.size false) a (fun _ _ => True) w.drew (by simp) (by simp) trivial (by simpa using hB.2) (fun _ _ _ _ _ => trivial) (fun _ _ _ => trivial) (Below.refl _ _).drew (fun _ => trivial) h
  refine wp_region_any hm ?_
  have := GR.any (Q := Q) (g := 0) (fun w1 w2 h1 h2 => Le.trans h2 h1) (fun listed a' F w' hL hb hF => ⟨hL.1, hL.2 w' hb hF⟩) _ _ _ _ _ (fun _ _ _ _ _ => trivial) H (Below.refl w.heap.size w).drew (fun _ => trivial)
  simpa using this
/-- A drawn region, its last operations (from number n on) one behind the other. -/
theorem rel_tail_b {id : Nat} {Q : Exit → Act → World → Prop} {a : Act} {w : World} {l : List Oper} (n : Nat) (T : Tell) (hm : P.follows .mixedOrders = true) (hB : Region.lexTailB .any l.toArray n = true)
    (h : RelAll P l.toArray .any (Le w) T.at_ T.is (fun a' F => ∀ w', Le w w' → (∀ d, F d w') → wpList P l.toArray Q (l.drop n) a' w') 0 (l.take n) a (fun _ _ => True)) : (Code.region id l.toArray true).wp P Q a w := by
  simp only [Region.lexTailB, Bool.and_eq_true, decide_eq_true_eq] at hB
  obtain ⟨⟨⟨⟨hsel, hn⟩, hs⟩, hc⟩, hlex⟩ := hB
  have hn' : n < l.length := by simpa using hn
  have htl : (l.take n).length = n := by simp; omega
  have hdl : (l.drop n).length = l.toArray.size - n := by simp
  have inv0 : HeadInv .any l.toArray n (Array.replicate l.toArray.size false) :=
    ⟨by simp, fun j oj _ hl => (by rw [getD_replicate_false] at hl; cases hl), fun t _ ht => getD_in (by simpa using ht) (getD_replicate_false _ _)⟩
  have H := rel_to_GR (n := n) (L := fun listed a F => Region.seqB .any l.toArray (l.toArray.size - n) n listed = true ∧ ∀ w', Le w w' → (∀ d, F d w') → wpList P l.toArray Q (l.drop n) a w') (Lq := fun a' F => ∀ w', Le w w' → (∀ d, F d w') → wpList P l.toArray Q (l.drop n) a' w')
    (fun w1 w2 h1 h2 => Le.trans h2 h1) hsel (HeadInv .any l.toArray n) (fun _ _ hi hj hjn => hi.set hj hjn)
    (fun listed i hi hin hun j hj => by
      rcases Nat.lt_or_ge j n with h2 | h2
      · exact h2
      · exact absurd hj (tail_waits hs hc hn hi _ i rfl hin hun j h2)) (fun listed a F hL => seqB_ready hL.1)
    (Region.lexHead .any l.toArray (l.toArray.size - n)) (fun f k listed h => by simp only [Region.lexHead, Bool.and_eq_true] at h; exact ⟨h.1.1, h.1.2, h.2⟩) (fun k listed a F hk h hq => ⟨by subst hk; simpa [Region.lexHead] using h, hq⟩)
    (l.take n) 0 (Array.replicate l.toArray.size false) a (fun _ _ => True) w.drew (fun j hj => by
      have hj' : j < n := by rw [htl] at hj; exact hj
      simp [hj']) (by simpa using htl) inv0 (by rw [htl]; exact hlex) (fun _ _ _ _ _ => trivial) (fun _ _ _ => trivial) (Below.refl _ _).drew (fun _ => trivial) h
  refine wp_region_any hm ?_
  have := GR.any (Q := Q) (g := l.toArray.size - n) (fun w1 w2 h1 h2 => Le.trans h2 h1) (fun listed a' F w' hL hb hF => by
    have := wpAny_of_seq (md := .any) (Q' := Q) (l.drop n) n listed a' w' (fun j => by simp [List.getElem?_drop]) (by rw [hdl]; exact hL.1) (hL.2 w' hb hF)
    rwa [hdl] at this) _ _ _ _ _ (fun _ _ _ _ _ => trivial) H (Below.refl w.heap.size w).drew (fun _ => trivial)
  rw [htl, show n + (l.toArray.size - n) = l.toArray.size by omega] at this
  exact this
/-! the steps of a walk -/
variable {T : Tell} {w : World} {k : Nat} {o : Oper} {l : List Oper} {a : Act} {F : Facts}
theorem rel_plain {L : World → Act → Prop} (v : Value) (hR : T.is k = false) (hF : ∀ w, F k w) (hg : Region.wanted o (yielded ops a.tmps) = true) (h : ∀ w', Le w w' → (execOp a.eval o).run P w' = .ok (.value v) w')
    (hl : RelAll P ops md (Le w) T.at_ T.is (fun a' F => ∀ w', Le w w' → (∀ d, F d w') → L w' a') (k + 1) l (a.put o.dst v) F) : RelAll P ops md (Le w) T.at_ T.is (fun a' F => ∀ w', Le w w' → (∀ d, F d w') → L w' a') k (o :: l) a F :=
  .inl ⟨hR, v, .inl ⟨hg, fun w hb _ => h w hb⟩, RelAll.weaker (fun a F F' hF h w' hb hd => h w' hb fun d => hF d w' (hd d)) _ _ _ _ _ (fun d w hd => by
    unfold setF at hd; split at hd
    · rename_i e; subst e; exact hF w
    · exact hd) hl⟩
theorem rel_off {L : World → Act → Prop} (hR : T.is k = false) (hF : ∀ w, F k w) (hg : Region.wanted o (yielded ops a.tmps) = false)
    (hl : RelAll P ops md (Le w) T.at_ T.is (fun a' F => ∀ w', Le w w' → (∀ d, F d w') → L w' a') (k + 1) l (a.put o.dst undef) F) : RelAll P ops md (Le w) T.at_ T.is (fun a' F => ∀ w', Le w w' → (∀ d, F d w') → L w' a') k (o :: l) a F :=
  .inl ⟨hR, undef, .inr ⟨hg, rfl⟩, RelAll.weaker (fun a F F' hF h w' hb hd => h w' hb fun d => hF d w' (hd d)) _ _ _ _ _ (fun d w hd => by
    unfold setF at hd; split at hd
    · rename_i e; subst e; exact hF w
    · exact hd) hl⟩
theorem rel_deps {L : World → Act → Prop} (v : Value) (hR : T.is k = false) (hg : Region.wanted o (yielded ops a.tmps) = true) (h : ∀ w', Le w w' → Deps md F o w' → (execOp a.eval o).run P w' = .ok (.value v) w')
    (hl : RelAll P ops md (Le w) T.at_ T.is (fun a' F => ∀ w', Le w w' → (∀ d, F d w') → L w' a') (k + 1) l (a.put o.dst v) (setF F k (Deps md F o))) : RelAll P ops md (Le w) T.at_ T.is (fun a' F => ∀ w', Le w w' → (∀ d, F d w') → L w' a') k (o :: l) a F :=
  .inl ⟨hR, v, .inl ⟨hg, h⟩, hl⟩
theorem rel_told {L : World → Act → Prop} (hR : T.is k = true) (hg : Region.wanted o (yielded ops a.tmps) = true) (h : ∀ w', Le w w' → Deps md F o w' → Ran P (T.at_ k) w' ((execOp a.eval o).run P w'))
    (hl : ∀ v w0, T.at_ k v w0 → RelAll P ops md (Le w) T.at_ T.is (fun a' F => ∀ w', Le w w' → (∀ d, F d w') → L w' a') (k + 1) l (a.put o.dst v) (setF F k (Known T.at_ md F k o v))) : RelAll P ops md (Le w) T.at_ T.is (fun a' F => ∀ w', Le w w' → (∀ d, F d w') → L w' a') k (o :: l) a F :=
  .inr ⟨hR, ⟨hg, h⟩, fun v ⟨w, _, hd⟩ => by
    have := hd k
    unfold setF at this; rw [if_pos rfl] at this
    obtain ⟨_, w0, _, h0⟩ := this
    exact hl v w0 h0⟩
theorem rel_nil {L : World → Act → Prop} (h : ∀ w', Le w w' → (∀ d, F d w') → L w' a) : RelAll P ops md (Le w) T.at_ T.is (fun a' F => ∀ w', Le w w' → (∀ d, F d w') → L w' a') k [] a F := h
end
def Tell.look (T : Tell) (i : Nat) : Option (Value → World → Prop) := (T.find? (·.1 == i)).map (·.2)
theorem Tell.out {T : Tell} {i : Nat} {φ : Value → World → Prop} {v : Value} {w : World} (h : T.at_ i v w) (hl : T.look i = some φ) : φ v w := by
  obtain ⟨x, hx, rfl⟩ := Option.map_eq_some_iff.1 hl
  exact h x (List.mem_of_find?_eq_some hx) (by simpa using List.find?_some hx)
theorem Tell.hit {T : Tell} {k : Nat} {φ : Value → World → Prop} {v : Value} {w : World} (hT : T.is k = false) (h : φ v w) : Tell.at_ ((k, φ) :: T) k v w := fun x hx he => by
  rcases List.mem_cons.1 hx with rfl | hx
  · exact h
  · have := List.any_eq_false.1 hT x hx
    simp [he] at this
theorem Tell.skip {T : Tell} {j k : Nat} {φ : Value → World → Prop} {v : Value} {w : World} (hj : (j == k) = false) (h : T.at_ k v w) : Tell.at_ ((j, φ) :: T) k v w := fun x hx he => by
  rcases List.mem_cons.1 hx with rfl | hx
  · simp only [beq_eq_false_iff_ne, ne_eq] at hj
    exact absurd he hj
  · exact h x hx he
theorem Known.out {T : Tell} {md : Region.Mode} {F : Facts} {i : Nat} {o : Oper} {v : Value} {w : World} {φ : Value → World → Prop} (h : Known T.at_ md F i o v w) (hl : T.look i = some φ) : ∃ w0, Le w0 w ∧ φ v w0 := by
  obtain ⟨_, w0, h1, h2⟩ := h
  exact ⟨w0, h1, Tell.out h2 hl⟩
end Go.Proofs.Ytpeojnknfonmlaa

/- A region whose order is drawn, as in H: some of its operations that only compute (no memory) may come up behind the first of the last ones (a late store). -/
set_option linter.unusedVariables false
namespace Go.Proofs.Ytpeojnknfonmlaa
open Go.RowKit
section
variable {P : Program} {ops : Array Oper} {md : Region.Mode}
/-- what it comes to does not hang on the world -/
def WorldFree (P : Program) (o : Oper) : Prop := ∀ (ev : Operand → Value) (w w' : World) (v : Value), (execOp ev o).run P w = .ok (.value v) w → (execOp ev o).run P w' = .ok (.value v) w'
def floats (o : Oper) : Bool := match o.op with
  | .extract _ _ => true
  | .move _ => true
  | _ => false
theorem worldFree {o : Oper} (h : floats o = true) : WorldFree P o := by
  intro ev w w' v
  unfold floats at h
  split at h
  · rename_i x i e
    unfold execOp
    simp only [e]
    intro hr
    generalize ev x = u at *
    unfold Instr.extract at hr ⊢
    cases u <;> simp at hr ⊢
    split at hr <;> simp_all
  · rename_i x e
    unfold execOp
    simp only [e]
    intro hr
    simp at hr ⊢
    exact hr
  · cases h
end
section
variable (P : Program) (ops : Array Oper) (md : Region.Mode) (B : World → Prop) (Φ : Nat → Value → World → Prop) (Rl : Nat → Bool)
def GE (n g : Nat) (Q : Exit → Act → World → Prop) (L : Array Bool → Act → Facts → Prop) : Nat → Array Bool → Act → Facts → Prop
  | 0, listed, a, F => L listed a F
  | f + 1, listed, a, F => Region.ready md ops listed ≠ [] ∧ ∀ i ∈ Region.ready md ops listed, (i < n ∧ ∃ o, ops[i]? = some o ∧
      ((Rl i = false ∧ ∃ v, Plain P ops md B o v F a ∧ GE n g Q L f (listed.setIfInBounds i true) (a.put o.dst v) (setF F i (Deps md F o))) ∨
       (Rl i = true ∧ Told P ops md B Φ i o F a ∧ ∀ v, (∃ w, B w ∧ ∀ d, setF F i (Known Φ md F i o v) d w) → GE n g Q L f (listed.setIfInBounds i true) (a.put o.dst v) (setF F i (Known Φ md F i o v))))) ∨
    (i = n ∧ ∀ w, B w → (∀ d, F d w) → wpOp P ops Q n (wpAny P md ops Q (f + g) (listed.setIfInBounds n true)) a w)
variable {P md ops B Φ Rl}
theorem Plain.yields {o : Oper} {v : Value} {F : Facts} {a : Act} {w : World} (h : Plain P ops md B o v F a) (hf : WorldFree P o) (hb : B w) (hd : Deps md F o w) : Yields P ops o v a := by
  rcases h with ⟨h1, h2⟩ | h
  · exact .inl ⟨h1, fun w' => hf _ w w' v (h2 w hb hd)⟩
  · exact .inr h
theorem yields_plain {o : Oper} {v : Value} {F : Facts} {a : Act} (h : Yields P ops o v a) : Plain P ops md B o v F a := h.imp (fun ⟨h1, h2⟩ => ⟨h1, fun w _ _ => h2 w⟩) id
theorem yields_same {o : Oper} {v : Value} {a a' : Act} (h : Yields P ops o v a) (he : execOp a'.eval o = execOp a.eval o) (hw : Region.wanted o (yielded ops a'.tmps) = Region.wanted o (yielded ops a.tmps)) : Yields P ops o v a' := by
  unfold Yields at *; rw [he, hw]; exact h
theorem GE.any {n g : Nat} {L : Array Bool → Act → Facts → Prop} {Q : Exit → Act → World → Prop} (hB : ∀ w w', Le w w' → B w → B w')
    (hL : ∀ listed a F w, L listed a F → B w → (∀ d, F d w) → wpAny P md ops Q g listed a w) :
    ∀ (f : Nat) (listed : Array Bool) (a : Act) (F : Facts) (w : World), Mono F → GE P ops md B Φ Rl n g Q L f listed a F → B w → (∀ d, F d w) → wpAny P md ops Q (f + g) listed a w
  | 0, listed, a, F, w, _, h, hb, hF => by rw [Nat.zero_add]; exact hL _ _ _ _ h hb hF
  | f + 1, listed, a, F, w, hm, h, hb, hF => by
    rw [show f + 1 + g = (f + g) + 1 by omega]
    refine ⟨fun h0 => absurd h0 h.1, fun i hi => ?_⟩
    rcases h.2 i hi with ⟨_, o, ho, h1⟩ | ⟨rfl, h1⟩
    rotate_left
    · exact h1 w hb hF
    have hd : Deps md F o w := fun e _ _ => hF _
    unfold wpOp
    simp only [ho]
    rcases h1 with ⟨_, v, hp, hr⟩ | ⟨_, ht, hr⟩
    · have key : wpAny P md ops Q (f + g) (listed.setIfInBounds i true) (a.put o.dst v) w := GE.any hB hL f _ _ _ _ (hm.deps i o) hr hb fun d => by
        unfold setF; split
        · exact hd
        · exact hF d
      rcases hp with ⟨h2, h3⟩ | ⟨h2, rfl⟩
      · rw [if_pos h2]
        refine .inl ?_
        unfold Oper.wp
        rw [h3 w hb hd]
        exact key
      · rw [if_neg (by simp [h2])]; exact key
    · have key : ∀ v w', Le w w' → Φ i v w' → wpAny P md ops Q (f + g) (listed.setIfInBounds i true) (a.put o.dst v) w' := fun v w' hl hφ => by
        have hk : Known Φ md F i o v w' := ⟨hd.mono hm hl, w', Le.refl _, hφ⟩
        have hall : ∀ d, setF F i (Known Φ md F i o v) d w' := fun d => by
          unfold setF; split
          · exact hk
          · exact hm _ _ _ hl (hF d)
        exact GE.any hB hL f _ _ _ _ (hm.known Φ i o v) (hr v ⟨w', hB _ _ hl hb, hall⟩) (hB _ _ hl hb) hall
      rw [if_pos ht.1]
      refine .inl ?_
      have h3 := ht.2 w hb hd
      unfold Oper.wp
      generalize (execOp a.eval o).run P w = r at *
      match r, h3 with
      | .ok (.value u) w', h3 => exact key _ _ h3.1 h3.2
      | .ok (.enter f' args) w', h3 => exact Calls.mono h3 fun e w'' ⟨v, he, hl, hφ⟩ => by subst he; exact key _ _ hl hφ
theorem GE.first {n g i : Nat} {Q : Exit → Act → World → Prop} {oi : Oper} {L : Array Bool → Act → Facts → Prop} (hBm : ∀ w w', Le w w' → B w → B w') (hi : ops[i]? = some oi) (hsel : ∀ (j : Nat) (o : Oper) cs b, ops[j]? = some o → o.op ≠ .select cs b)
    (I : Array Bool → Prop) (hI : ∀ listed j, I listed → j ∈ Region.ready md ops listed → j < n → I (listed.setIfInBounds j true))
    (hwait : ∀ listed, I listed → listed.getD i true = false → ∀ j ∈ Region.ready md ops listed, j < n) (hin : i < n)
    (hdone : ∀ listed a F, L listed a F → ∀ j ∈ Region.ready md ops listed, n ≤ j) :
    ∀ (f : Nat) (listed : Array Bool) (a : Act) (F : Facts) (w : World), Mono F → (∀ d, listed.getD d true = false → ∀ w, F d w) → B w → (∀ d, F d w) → I listed → (∀ j oj, ops[j]? = some oj → j ≠ i → listed.getD j true = false → (∀ e ∈ oj.after, Region.binds md e = true → e.on ≠ i) → oi.apart ops oj = true) →
      i ∈ Region.ready md ops listed → Part (P := P) (ops := ops) (md := md) (B := B) (Φ := Φ) (Rl := Rl) n i oi F a (fun v F' => GE P ops md B Φ Rl n g Q L f (listed.setIfInBounds i true) (a.put oi.dst v) F') → GE P ops md B Φ Rl n g Q L (f + 1) listed a F := by
  intro f
  induction f with
  | zero =>
    intro listed a F w hm hU hb hF hinv _ hr H
    refine ⟨fun h => (by rw [h] at hr; cases hr), fun j hj => ?_⟩
    have hjn := hwait listed hinv (mem_ready.1 hr).1 j hj
    refine .inl ⟨hjn, ?_⟩
    by_cases hji : j = i
    · subst hji; exact ⟨oi, hi, H⟩
    · exfalso
      have : ∃ a' F', L (listed.setIfInBounds i true) a' F' := by
        rcases H with ⟨_, v, _, h⟩ | ⟨_, ht, h⟩
        · exact ⟨_, _, h⟩
        · obtain ⟨v, w', hl, hφ⟩ := (ht.2 w hb fun e _ _ => hF _).some
          exact ⟨_, _, h v ⟨w', hBm _ _ hl hb, fun d => by
            unfold setF; split
            · exact ⟨fun e _ _ => hm _ _ _ hl (hF _), w', Le.refl _, hφ⟩
            · exact hm _ _ _ hl (hF d)⟩⟩
      obtain ⟨a', F', h⟩ := this
      have := hdone _ _ _ h j (ready_mono hj hji)
      omega
  | succ f ih =>
    intro listed a F w hm hU hb hF hinv hfree hr H
    have hun := (mem_ready.1 hr).1
    refine ⟨fun h => (by rw [h] at hr; cases hr), fun j hj => ?_⟩
    have hjn := hwait listed hinv hun j hj
    refine .inl ⟨hjn, ?_⟩
    by_cases hji : j = i
    · subst hji; exact ⟨oi, hi, H⟩
    · obtain ⟨_, oj, hoj, hall⟩ := mem_ready.1 hj
      have hnot : ∀ e ∈ oj.after, Region.binds md e = true → e.on ≠ i := fun e he hbd heq => by
        have h1 := hall e he hbd
        rw [heq, getD_both hun] at h1
        cases h1
      obtain ⟨oi', hoi', halli⟩ := (mem_ready.1 hr).2
      obtain rfl : oi' = oi := Option.some.inj (hoi'.symm.trans hi)
      have hnoti : ∀ e ∈ oi'.after, Region.binds md e = true → e.on ≠ j := fun e he hbd heq => by
        have h1 := halli e he hbd
        rw [heq, getD_both (mem_ready.1 hj).1] at h1
        cases h1
      obtain ⟨p1, p2, p3⟩ := Oper.apart_spec (hfree j oj hoj hji (mem_ready.1 hj).1 hnot)
      have ej : ∀ v, execOp (a.put oi'.dst v).eval oj = execOp a.eval oj := fun v => execOp_put oj (fun cs b => hsel j oj cs b hoj) a oi'.dst v p1
      have wj : ∀ v, Region.wanted oj (yielded ops (a.put oi'.dst v).tmps) = Region.wanted oj (yielded ops a.tmps) := fun v => wanted_put oj a oi'.dst v p1
      have ei : ∀ v, execOp (a.put oj.dst v).eval oi' = execOp a.eval oi' := fun v => execOp_put oi' (fun cs b => hsel i oi' cs b hi) a oj.dst v p3
      have wi : ∀ v, Region.wanted oi' (yielded ops (a.put oj.dst v).tmps) = Region.wanted oi' (yielded ops a.tmps) := fun v => wanted_put oi' a oj.dst v p3
      have hdj : Deps md F oj w := fun e _ _ => hF _
      -- j's part at a state in which i has come up goes over to the state without
      have back : ∀ (vi : Value) (p : World → Prop), GE P ops md B Φ Rl n g Q L (f + 1) (listed.setIfInBounds i true) (a.put oi'.dst vi) (setF F i p) →
          (Rl j = false ∧ ∃ v, Plain P ops md B oj v F a ∧ GE P ops md B Φ Rl n g Q L f ((listed.setIfInBounds i true).setIfInBounds j true) ((a.put oi'.dst vi).put oj.dst v) (setF (setF F i p) j (Deps md F oj))) ∨
          (Rl j = true ∧ Told P ops md B Φ j oj F a ∧ ∀ v, (∃ w, B w ∧ ∀ d, setF (setF F i p) j (Known Φ md F j oj v) d w) → GE P ops md B Φ Rl n g Q L f ((listed.setIfInBounds i true).setIfInBounds j true) ((a.put oi'.dst vi).put oj.dst v) (setF (setF F i p) j (Known Φ md F j oj v))) := by
        intro vi p h
        have hD : Deps md (setF F i p) oj = Deps md F oj := funext fun w => propext (deps_set hnot w)
        have hK : ∀ v, Known Φ md (setF F i p) j oj v = Known Φ md F j oj v := fun v => by unfold Known; rw [hD]
        have h9 := (h.2 j (ready_mono hj hji)).resolve_right (fun h8 => by omega)
        obtain ⟨_, oj', hoj', h2⟩ := h9
        obtain rfl : oj' = oj := Option.some.inj (hoj'.symm.trans hoj)
        rcases h2 with ⟨r, v, h3, h4⟩ | ⟨r, h3, h4⟩
        · exact .inl ⟨r, v, h3.same (ej vi).symm (wj vi).symm (fun w h => by rwa [hD]), by rwa [hD] at h4⟩
        · refine .inr ⟨r, h3.same (ej vi).symm (wj vi).symm (fun w h => by rwa [hD]), fun v hv => ?_⟩
          have := h4 v (by rwa [hK])
          rwa [hK] at this
      have hDi : ∀ p, Deps md (setF F j p) oi' = Deps md F oi' := fun p => funext fun w => propext (deps_set hnoti w)
      have hKi : ∀ p v, Known Φ md (setF F j p) i oi' v = Known Φ md F i oi' v := fun p v => by unfold Known; rw [hDi]
      have freej : ∀ k ok, ops[k]? = some ok → k ≠ i → (listed.setIfInBounds j true).getD k true = false → (∀ e ∈ ok.after, Region.binds md e = true → e.on ≠ i) → oi'.apart ops ok = true := fun k ok hk hki hunk hno => by
        refine hfree k ok hk hki ?_ hno
        by_cases hjk : j = k
        · subst hjk; exact (mem_ready.1 hj).1
        · rw [getD_set_ne true hjk] at hunk; exact hunk
      refine ⟨oj, hoj, ?_⟩
      -- what i asks, behind j
      have go : ∀ (vj : Value) (p : World → Prop) (w' : World), Mono (setF F j p) → B w' → (∀ d, setF F j p d w') →
          ((Rl i = false ∧ ∃ v, Plain P ops md B oi' v F a ∧ GE P ops md B Φ Rl n g Q L f ((listed.setIfInBounds i true).setIfInBounds j true) ((a.put oi'.dst v).put oj.dst vj) (setF (setF F i (Deps md F oi')) j p)) ∨
            (Rl i = true ∧ Told P ops md B Φ i oi' F a ∧ ∀ v, (∃ w, B w ∧ ∀ d, setF (setF F j p) i (Known Φ md F i oi' v) d w) → GE P ops md B Φ Rl n g Q L f ((listed.setIfInBounds i true).setIfInBounds j true) ((a.put oi'.dst v).put oj.dst vj) (setF (setF F i (Known Φ md F i oi' v)) j p))) →
          GE P ops md B Φ Rl n g Q L (f + 1) (listed.setIfInBounds j true) (a.put oj.dst vj) (setF F j p) := by
        intro vj p w' hm' hb' hF' h
        refine ih _ _ _ w' hm' (fun d hd w => ?_) hb' hF' (hI _ _ hinv hj hjn) freej (ready_mono hr (Ne.symm hji)) ?_
        · by_cases hjd : j = d
          · subst hjd
            exfalso
            rcases Nat.lt_or_ge j listed.size with h' | h'
            · simp [h'] at hd
            · have := (mem_ready.1 hj).1
              simp [Array.getElem?_eq_none h'] at this
          · rw [getD_set_ne true hjd] at hd
            unfold setF; rw [if_neg (Ne.symm hjd)]; exact hU d hd w
        rcases h with ⟨r, vi, h3, h4⟩ | ⟨r, h3, h4⟩
        · refine .inl ⟨r, vi, h3.same (ei vj) (wi vj) (fun w h => by rwa [hDi] at h), ?_⟩
          show GE P ops md B Φ Rl n g Q L f _ _ _
          rw [hDi, Array.setIfInBounds_comm _ _ hji, ← Act.put_comm a vi vj p2, ← setF_comm _ _ (Ne.symm hji)]
          exact h4
        · refine .inr ⟨r, h3.same (ei vj) (wi vj) (fun w h => by rwa [hDi] at h), fun vi hvi => ?_⟩
          rw [hKi] at hvi ⊢
          show GE P ops md B Φ Rl n g Q L f _ _ _
          rw [Array.setIfInBounds_comm _ _ hji, ← Act.put_comm a vi vj p2, ← setF_comm _ _ (Ne.symm hji)]
          exact h4 vi hvi
      have hFj : ∀ w', Le w w' → ∀ p : World → Prop, p w' → ∀ d, setF F j p d w' := fun w' hl p hp d => by
        unfold setF; split
        · exact hp
        · exact hm _ _ _ hl (hF d)
      have inhab : Rl i = true → Told P ops md B Φ i oi' F a → ∃ v, ∃ w', B w' ∧ ∀ d, setF F i (Known Φ md F i oi' v) d w' := fun _ ht => by
        obtain ⟨v, w', hl, hφ⟩ := (ht.2 w hb fun e _ _ => hF _).some
        refine ⟨v, w', hBm _ _ hl hb, fun d => ?_⟩
        unfold setF; split
        · exact ⟨fun e _ _ => hm _ _ _ hl (hF _), w', Le.refl _, hφ⟩
        · exact hm _ _ _ hl (hF d)
      have forget : ∀ p q w', (∀ d, setF (setF F j p) i q d w') → ∀ d, setF F i q d w' := fun p q w' h d => by
        have h1 := h d
        unfold setF at h1 ⊢
        by_cases hd : d = i
        · rw [if_pos hd] at h1 ⊢; exact h1
        · rw [if_neg hd] at h1 ⊢
          by_cases hd2 : d = j
          · subst hd2; exact hU _ (mem_ready.1 hj).1 w'
          · rw [if_neg hd2] at h1; exact h1
      cases hRj : Rl j with
      | false =>
        refine .inl ⟨rfl, ?_⟩
        rcases H with ⟨r, vi, h3, h4⟩ | ⟨r, h3, h4⟩
        · rcases back vi _ h4 with ⟨_, vj, h5, h6⟩ | ⟨r5, _⟩
          · exact ⟨vj, h5, go vj _ w (hm.deps j oj) hb (hFj w (Le.refl _) _ hdj) (.inl ⟨r, vi, h3, h6⟩)⟩
          · rw [hRj] at r5; cases r5
        · obtain ⟨v0, hv0⟩ := inhab r h3
          rcases back v0 _ (h4 v0 hv0) with ⟨_, vj, h5, h6⟩ | ⟨r5, _⟩
          · refine ⟨vj, h5, go vj _ w (hm.deps j oj) hb (hFj w (Le.refl _) _ hdj) (.inr ⟨r, h3, fun vi hvi => ?_⟩)⟩
            obtain ⟨w2, hB2, hF2⟩ := hvi
            rcases back vi _ (h4 vi ⟨w2, hB2, forget _ _ _ hF2⟩) with ⟨_, vj', h7, h8⟩ | ⟨r5, _⟩
            · obtain rfl := h5.one h7 hb hdj
              exact h8
            · rw [hRj] at r5; cases r5
          · rw [hRj] at r5; cases r5
      | true =>
        have hT : Told P ops md B Φ j oj F a := by
          rcases H with ⟨r, vi, h3, h4⟩ | ⟨r, h3, h4⟩
          · rcases back vi _ h4 with ⟨r5, _⟩ | ⟨_, h5, _⟩
            · rw [hRj] at r5; cases r5
            · exact h5
          · obtain ⟨v0, hv0⟩ := inhab r h3
            rcases back v0 _ (h4 v0 hv0) with ⟨r5, _⟩ | ⟨_, h5, _⟩
            · rw [hRj] at r5; cases r5
            · exact h5
        refine .inr ⟨rfl, hT, fun vj hvj => ?_⟩
        obtain ⟨w', hb', hF'⟩ := hvj
        refine go vj _ w' (hm.known Φ j oj vj) hb' hF' ?_
        rcases H with ⟨r, vi, h3, h4⟩ | ⟨r, h3, h4⟩
        · rcases back vi _ h4 with ⟨r5, _⟩ | ⟨_, _, h6⟩
          · rw [hRj] at r5; cases r5
          · refine .inl ⟨r, vi, h3, h6 vj ⟨w', hb', fun d => ?_⟩⟩
            have h1 := hF' d
            unfold setF at h1 ⊢
            by_cases hd : d = j
            · rw [if_pos hd] at h1 ⊢; exact h1
            · rw [if_neg hd] at h1 ⊢
              by_cases hd2 : d = i
              · rw [if_pos hd2]
                intro e he hbd
                have h2 := hF' e.on
                unfold setF at h2
                rwa [if_neg (hnoti e he hbd)] at h2
              · rw [if_neg hd2]; exact h1
        · refine .inr ⟨r, h3, fun vi hvi => ?_⟩
          obtain ⟨w2, hB2, hF2⟩ := hvi
          rcases back vi _ (h4 vi ⟨w2, hB2, forget _ _ _ hF2⟩) with ⟨r5, _⟩ | ⟨_, _, h6⟩
          · rw [hRj] at r5; cases r5
          · refine h6 vj ⟨w2, hB2, fun d => ?_⟩
            rw [setF_comm _ _ (Ne.symm hji)]
            exact hF2 d
theorem GE.float {n g i : Nat} {oi : Oper} {v : Value} {Q : Exit → Act → World → Prop} {L : Array Bool → Act → Facts → Prop} (hBm : ∀ w w', Le w w' → B w → B w')
    (hL : ∀ listed a F w, L listed a F → B w → (∀ d, F d w) → wpAny P md ops Q g listed a w) (hi : ops[i]? = some oi) (hsel : ∀ (j : Nat) (o : Oper) cs b, ops[j]? = some o → o.op ≠ .select cs b)
    (hQ : ∀ c a w, Q (.panic c) (a.put oi.dst v) w → Q (.panic c) a w) (I : Array Bool → Prop) (hI : ∀ listed j, I listed → j ∈ Region.ready md ops listed → j < n → I (listed.setIfInBounds j true)) (hin : i < n)
    (hle : ∀ listed, I listed → ∀ j ∈ Region.ready md ops listed, j ≤ n) (hdone : ∀ listed a F, L listed a F → ∀ j ∈ Region.ready md ops listed, n ≤ j) (hRi : Rl i = false) :
    ∀ (f : Nat) (listed : Array Bool) (a : Act) (F : Facts) (w : World), Mono F → (∀ d, listed.getD d true = false → ∀ w, F d w) → B w → (∀ d, F d w) → I listed → (∀ j oj, ops[j]? = some oj → j ≠ i → listed.getD j true = false → (∀ e ∈ oj.after, Region.binds md e = true → e.on ≠ i) → oi.apart ops oj = true) →
      i ∈ Region.ready md ops listed → Yields P ops oi v a → GE P ops md B Φ Rl n g Q L f (listed.setIfInBounds i true) (a.put oi.dst v) (setF F i (Deps md F oi)) → GE P ops md B Φ Rl n g Q L (f + 1) listed a F := by
  intro f
  induction f with
  | zero =>
    intro listed a F w hm hU hb hF hinv hfree hr hy H
    refine ⟨fun h => (by rw [h] at hr; cases hr), fun j hj => ?_⟩
    by_cases hji : j = i
    · subst hji; exact .inl ⟨hin, oi, hi, .inl ⟨hRi, v, (yields_plain hy), H⟩⟩
    · by_cases hjn : j < n
      · exfalso
        have := hdone _ _ _ H j (ready_mono hj hji)
        omega
      · obtain rfl : j = n := by have := hle listed hinv j hj; omega
        refine .inr ⟨rfl, fun w' hb' hF' => ?_⟩
        have h1 := GE.any (Q := Q) hBm hL 0 _ _ _ w' (hm.deps i oi) H hb' (set_all hF' (fun e _ _ => hF' _))
        exact (wpAny_first hi hsel hQ _ listed a w' hfree hr hy h1).2 j hj
  | succ f ih =>
    intro listed a F w hm hU hb hF hinv hfree hr hy H
    have hun := (mem_ready.1 hr).1
    refine ⟨fun h => (by rw [h] at hr; cases hr), fun j hj => ?_⟩
    by_cases hji : j = i
    · subst hji; exact .inl ⟨hin, oi, hi, .inl ⟨hRi, v, (yields_plain hy), H⟩⟩
    · by_cases hjn : j < n
      · rcases H.2 j (ready_mono hj hji) with ⟨_, oj, hoj, h2⟩ | ⟨h8, _⟩
        rotate_left
        · omega
        refine .inl ⟨hjn, oj, hoj, ?_⟩
        obtain ⟨_, oj', hoj', hall⟩ := mem_ready.1 hj
        obtain rfl : oj' = oj := Option.some.inj (hoj'.symm.trans hoj)
        have hnot : ∀ e ∈ oj'.after, Region.binds md e = true → e.on ≠ i := fun e he hbd heq => by
          have h1 := hall e he hbd
          rw [heq, getD_both hun] at h1
          cases h1
        obtain ⟨oi', hoi', halli⟩ := (mem_ready.1 hr).2
        obtain rfl : oi' = oi := Option.some.inj (hoi'.symm.trans hi)
        have hnoti : ∀ e ∈ oi'.after, Region.binds md e = true → e.on ≠ j := fun e he hbd heq => by
          have h1 := halli e he hbd
          rw [heq, getD_both (mem_ready.1 hj).1] at h1
          cases h1
        obtain ⟨p1, p2, p3⟩ := Oper.apart_spec (hfree j oj' hoj hji (mem_ready.1 hj).1 hnot)
        have ej : execOp (a.put oi'.dst v).eval oj' = execOp a.eval oj' := execOp_put oj' (fun cs b => hsel j oj' cs b hoj) a oi'.dst v p1
        have wj : Region.wanted oj' (yielded ops (a.put oi'.dst v).tmps) = Region.wanted oj' (yielded ops a.tmps) := wanted_put oj' a oi'.dst v p1
        have ei : ∀ u, execOp (a.put oj'.dst u).eval oi' = execOp a.eval oi' := fun u => execOp_put oi' (fun cs b => hsel i oi' cs b hi) a oj'.dst u p3
        have wi : ∀ u, Region.wanted oi' (yielded ops (a.put oj'.dst u).tmps) = Region.wanted oi' (yielded ops a.tmps) := fun u => wanted_put oi' a oj'.dst u p3
        have hD : Deps md (setF F i (Deps md F oi')) oj' = Deps md F oj' := funext fun w => propext (deps_set hnot w)
        have hK : ∀ u, Known Φ md (setF F i (Deps md F oi')) j oj' u = Known Φ md F j oj' u := fun u => by unfold Known; rw [hD]
        have hDi : ∀ p, Deps md (setF F j p) oi' = Deps md F oi' := fun p => funext fun w => propext (deps_set hnoti w)
        have freej : ∀ k ok, ops[k]? = some ok → k ≠ i → (listed.setIfInBounds j true).getD k true = false → (∀ e ∈ ok.after, Region.binds md e = true → e.on ≠ i) → oi'.apart ops ok = true := fun k ok hk hki hunk hno => by
          refine hfree k ok hk hki ?_ hno
          by_cases hjk : j = k
          · subst hjk; exact (mem_ready.1 hj).1
          · rw [getD_set_ne true hjk] at hunk; exact hunk
        have go : ∀ (vj : Value) (p : World → Prop) (w' : World), Mono (setF F j p) → B w' → (∀ d, setF F j p d w') →
            GE P ops md B Φ Rl n g Q L f ((listed.setIfInBounds i true).setIfInBounds j true) ((a.put oi'.dst v).put oj'.dst vj) (setF (setF F i (Deps md F oi')) j p) →
            GE P ops md B Φ Rl n g Q L (f + 1) (listed.setIfInBounds j true) (a.put oj'.dst vj) (setF F j p) := by
          intro vj p w' hm' hb' hF' h
          refine ih _ _ _ w' hm' (fun d hd w => ?_) hb' hF' (hI _ _ hinv hj hjn) freej (ready_mono hr (Ne.symm hji)) (yields_same hy (ei vj) (wi vj)) ?_
          · by_cases hjd : j = d
            · subst hjd
              exfalso
              rcases Nat.lt_or_ge j listed.size with h' | h'
              · simp [h'] at hd
              · have := (mem_ready.1 hj).1
                simp [Array.getElem?_eq_none h'] at this
            · rw [getD_set_ne true hjd] at hd
              unfold setF; rw [if_neg (Ne.symm hjd)]; exact hU d hd w
          · rw [hDi, Array.setIfInBounds_comm _ _ hji, ← Act.put_comm a v vj p2, ← setF_comm _ _ (Ne.symm hji)]
            exact h
        rcases h2 with ⟨r, vj, h3, h4⟩ | ⟨r, h3, h4⟩
        · rw [hD] at h4
          exact .inl ⟨r, vj, h3.same ej.symm wj.symm (fun w h => by rwa [hD]), go vj _ w (hm.deps j oj') hb (set_all hF (fun e _ _ => hF _)) h4⟩
        · refine .inr ⟨r, h3.same ej.symm wj.symm (fun w h => by rwa [hD]), fun vj hvj => ?_⟩
          have h5 := h4 vj
          rw [hK] at h5
          obtain ⟨w', hb', hF'⟩ := hvj
          refine go vj _ w' (hm.known Φ j oj' vj) hb' hF' (h5 ⟨w', hb', fun d => ?_⟩)
          have h1 := hF' d
          unfold setF at h1 ⊢
          by_cases hd : d = j
          · rw [if_pos hd] at h1 ⊢; exact h1
          · rw [if_neg hd] at h1 ⊢
            by_cases hd2 : d = i
            · rw [if_pos hd2]
              intro e he hbd
              have h2 := hF' e.on
              unfold setF at h2
              rwa [if_neg (hnoti e he hbd)] at h2
            · rw [if_neg hd2]; exact h1
      · obtain rfl : j = n := by have := hle listed hinv j hj; omega
        refine .inr ⟨rfl, fun w' hb' hF' => ?_⟩
        have h1 := GE.any (Q := Q) hBm hL (f + 1) _ _ _ w' (hm.deps i oi) H hb' (set_all hF' (fun e _ _ => hF' _))
        exact (wpAny_first hi hsel hQ _ listed a w' hfree hr hy h1).2 j hj
theorem rel_to_GE {n g : Nat} {Q : Exit → Act → World → Prop} {L : Array Bool → Act → Facts → Prop} {Lq : Act → Facts → Prop} (hBm : ∀ w w', Le w w' → B w → B w') (hsel : Region.noSelect ops = true)
    (I : Array Bool → Prop) (hI : ∀ listed j, I listed → j ∈ Region.ready md ops listed → j < n → I (listed.setIfInBounds j true))
    (Fl : Nat → Bool) (hFl : ∀ k o, Fl k = true → ops[k]? = some o → WorldFree P o) (hFR : ∀ k, Fl k = true → Rl k = false) (hQ : ∀ k oi (v : Value) c a w, Fl k = true → ops[k]? = some oi → Q (.panic c) (a.put oi.dst v) w → Q (.panic c) a w)
    (hL : ∀ listed a F w, L listed a F → B w → (∀ d, F d w) → wpAny P md ops Q g listed a w)
    (hle : ∀ listed, I listed → ∀ j ∈ Region.ready md ops listed, j ≤ n) (hwait : ∀ listed i, I listed → i < n → Fl i = false → listed.getD i true = false → ∀ j ∈ Region.ready md ops listed, j < n) (hdone : ∀ listed a F, L listed a F → ∀ j ∈ Region.ready md ops listed, n ≤ j)
    (chk : Nat → Nat → Array Bool → Bool) (hchk : ∀ f k listed, chk (f + 1) k listed = true → (Region.ready md ops listed).contains k = true ∧ Region.free md ops listed k = true ∧ chk f (k + 1) (listed.setIfInBounds k true) = true)
    (hend : ∀ k listed a F, k = n → chk 0 k listed = true → Lq a F → L listed a F) :
    ∀ (l : List Oper) (k : Nat) (listed : Array Bool) (a : Act) (F : Facts) (w : World), (∀ j, j < l.length → l[j]? = ops[k + j]?) → k + l.length = n → I listed → chk l.length k listed = true → Mono F → (∀ d, listed.getD d true = false → ∀ w, F d w) → B w → (∀ d, F d w) →
    RelAll P ops md B Φ Rl Lq k l a F → GE P ops md B Φ Rl n g Q L l.length listed a F
  | [], k, listed, a, F, w, _, hk, _, hB, _, _, _, _, h => hend k listed a F (by simpa using hk) (by simpa using hB) h
  | o :: l, k, listed, a, F, w, hl, hk, inv, hB, hm, hU, hb, hF, h => by
    have h0 : ops[k]? = some o := by simpa using (hl 0 (by simp)).symm
    obtain ⟨hr, hf, hB'⟩ := hchk l.length k listed (by simpa using hB)
    have hkn : k < n := by simp only [List.length_cons] at hk; omega
    have hr' : k ∈ Region.ready md ops listed := by simpa using hr
    have hl' : ∀ j, j < l.length → l[j]? = ops[k + 1 + j]? := fun j hj => by have := hl (j + 1) (by simp; omega); simpa [Nat.add_assoc, Nat.add_comm 1 j] using this
    have hk' : k + 1 + l.length = n := by simp only [List.length_cons] at hk; omega
    have hdw : Deps md F o w := fun e _ _ => hF _
    cases hfl : Fl k with
    | true =>
      have hRk := hFR k hfl
      rcases h with ⟨r, v, h1, h2⟩ | ⟨r, _⟩
      · exact GE.float hBm hL h0 (Region.noSelect_spec hsel) (fun c a w => hQ k o v c a w hfl h0) I hI hkn hle hdone hRk l.length listed a F w hm hU hb hF inv (Region.free_spec h0 hf) hr' (h1.yields (hFl k o hfl h0) hb hdw)
          (rel_to_GE hBm hsel I hI Fl hFl hFR hQ hL hle hwait hdone chk hchk hend l (k + 1) _ _ _ w hl' hk' (hI _ _ inv hr' hkn) hB' (hm.deps k o) (fun d hd w => set_true (mem_ready.1 hr').1 hU hd w) hb (set_all hF hdw) h2)
      · rw [hRk] at r; cases r
    | false =>
    refine GE.first hBm h0 (Region.noSelect_spec hsel) I hI (fun listed hi hun j hj => hwait listed k hi hkn hfl hun j hj) hkn hdone l.length listed a F w hm hU hb hF inv (Region.free_spec h0 hf) hr' ?_
    rcases h with ⟨r, v, h1, h2⟩ | ⟨r, h1, h2⟩
    · exact .inl ⟨r, v, h1, rel_to_GE hBm hsel I hI Fl hFl hFR hQ hL hle hwait hdone chk hchk hend l (k + 1) _ _ _ w hl' hk' (hI _ _ inv hr' hkn) hB' (hm.deps k o) (fun d hd w => set_true (mem_ready.1 hr').1 hU hd w) hb (set_all hF hdw) h2⟩
    · refine .inr ⟨r, h1, fun v hv => ?_⟩
      obtain ⟨w', hb', hF'⟩ := id hv
      exact rel_to_GE hBm hsel I hI Fl hFl hFR hQ hL hle hwait hdone chk hchk hend l (k + 1) _ _ _ w' hl' hk' (hI _ _ inv hr' hkn) hB' (hm.known Φ k o v) (fun d hd w => set_true (mem_ready.1 hr').1 hU hd w) hb' hF' (h2 v hv)
/-- each of the first n operations but the floats is waited for by a later one, up to n -/
def sinkF (md : Region.Mode) (ops : Array Oper) (n : Nat) (Fs : List Nat) : Bool :=
  (List.range n).all fun i => Fs.contains i || (List.range (n + 1)).any fun j => decide (i < j) && (!Fs.contains j && Region.waitsFor md ops j i)
theorem tail_waitsF {n : Nat} {Fs : List Nat} {listed : Array Bool} (hs : sinkF md ops n Fs = true) (hnF : Fs.contains n = false) (hc : Region.chainB md ops n = true) (hn : n < ops.size) (inv : HeadInv md ops n listed) :
    ∀ (d i : Nat), n - i = d → i < n → Fs.contains i = false → listed.getD i true = false → ∀ t, n ≤ t → t ∉ Region.ready md ops listed := by
  intro d
  induction d using Nat.strongRecOn with
  | _ d ih =>
    intro i hd hi hiF hun t ht hr
    obtain ⟨_, ot, hot, hall⟩ := mem_ready.1 hr
    have htlt : t < ops.size := (Array.getElem?_eq_some_iff.1 hot).1
    by_cases htn : t = n
    · subst htn
      have h1 := List.all_eq_true.1 hs i (List.mem_range.2 hi)
      rw [hiF, Bool.false_or] at h1
      obtain ⟨j, hj, hj2⟩ := List.any_eq_true.1 h1
      simp only [Bool.and_eq_true, decide_eq_true_eq, Bool.not_eq_true'] at hj2
      obtain ⟨hj3, hj4, hj5⟩ := hj2
      obtain ⟨oj, hoj, e, he, hb, hon⟩ := Region.waitsFor_spec hj5
      have hjle : j ≤ t := by have := List.mem_range.1 hj; omega
      by_cases hjt : j = t
      · subst hjt
        have : oj = ot := Option.some.inj (hoj.symm.trans hot)
        subst this
        have h2 := hall e he hb
        rw [hon, getD_both hun] at h2
        cases h2
      · cases hl : listed.getD j false with
        | true =>
          have h2 := inv.closed j oj hoj hl e he hb
          rw [hon, getD_both hun] at h2
          cases h2
        | false =>
          have hjs : j < listed.size := by rw [inv.size]; omega
          exact ih (t - j) (by omega) j rfl (by omega) hj4 (getD_in hjs hl) t (Nat.le_refl _) hr
    · have h1 := List.all_eq_true.1 hc t (List.mem_range.2 htlt)
      simp only [Bool.or_eq_true, decide_eq_true_eq] at h1
      rcases h1 with h1 | h1
      · omega
      · obtain ⟨o', ho', e, he, hb, hon⟩ := Region.waitsFor_spec h1
        have : o' = ot := Option.some.inj (ho'.symm.trans hot)
        subst this
        have h2 := hall e he hb
        rw [hon, getD_both (inv.tail (t - 1) (by omega) (by omega))] at h2
        cases h2
theorem head_le {n : Nat} {listed : Array Bool} (hc : Region.chainB md ops n = true) (inv : HeadInv md ops n listed) : ∀ j ∈ Region.ready md ops listed, j ≤ n := fun t hr => by
  obtain ⟨_, ot, hot, hall⟩ := mem_ready.1 hr
  have htlt : t < ops.size := (Array.getElem?_eq_some_iff.1 hot).1
  rcases Nat.lt_or_ge n t with hlt | hge
  · exfalso
    have h1 := List.all_eq_true.1 hc t (List.mem_range.2 htlt)
    simp only [Bool.or_eq_true, decide_eq_true_eq] at h1
    rcases h1 with h1 | h1
    · omega
    · obtain ⟨o', ho', e, he, hb, hon⟩ := Region.waitsFor_spec h1
      have : o' = ot := Option.some.inj (ho'.symm.trans hot)
      subst this
      have h2 := hall e he hb
      rw [hon, getD_both (inv.tail (t - 1) (by omega) (by omega))] at h2
      cases h2
  · exact hge
def lexTailF (md : Region.Mode) (ops : Array Oper) (n : Nat) (Fs : List Nat) (T : Nat → Bool) : Bool :=
  Region.noSelect ops && decide (n < ops.size) && sinkF md ops n Fs && !Fs.contains n && Region.chainB md ops n && Region.lexHead md ops (ops.size - n) n 0 (Array.replicate ops.size false) &&
    Fs.all (fun k => !T k && match ops[k]? with | some o => floats o | none => true)
/-- A drawn region, its last operations (from number n on) one behind the other; the operations Fs, which only compute, may come up behind the first of these. -/
theorem rel_tailf_b {id : Nat} {Q : Exit → Act → World → Prop} {a : Act} {w : World} {l : List Oper} (n : Nat) (Fs : List Nat) (T : Tell) (hm : P.follows .mixedOrders = true) (hB : lexTailF .any l.toArray n Fs T.is = true)
    (hQ : ∀ d (v : Value) c a w, Q (.panic c) (a.put d v) w → Q (.panic c) a w)
    (h : RelAll P l.toArray .any (Le w) T.at_ T.is (fun a' F => ∀ w', Le w w' → (∀ d, F d w') → wpList P l.toArray Q (l.drop n) a' w') 0 (l.take n) a (fun _ _ => True)) : (Code.region id l.toArray true).wp P Q a w := by
  simp only [lexTailF, Bool.and_eq_true, decide_eq_true_eq, Bool.not_eq_true'] at hB
  obtain ⟨⟨⟨⟨⟨⟨hsel, hn⟩, hs⟩, hnF⟩, hc⟩, hlex⟩, hfs⟩ := hB
  have hn' : n < l.length := by simpa using hn
  have htl : (l.take n).length = n := by simp; omega
  have hdl : (l.drop n).length = l.toArray.size - n := by simp
  have inv0 : HeadInv .any l.toArray n (Array.replicate l.toArray.size false) :=
    ⟨by simp, fun j oj _ hl => (by rw [getD_replicate_false] at hl; cases hl), fun t _ ht => getD_in (by simpa using ht) (getD_replicate_false _ _)⟩
  have hLs : ∀ (listed : Array Bool) (a' : Act) (F : Facts) (w' : World), (Region.seqB .any l.toArray (l.toArray.size - n) n listed = true ∧ ∀ w', Le w w' → (∀ d, F d w') → wpList P l.toArray Q (l.drop n) a' w') → Le w w' → (∀ d, F d w') → wpAny P .any l.toArray Q (l.toArray.size - n) listed a' w' := fun listed a' F w' hL hb hF => by
    have := wpAny_of_seq (md := .any) (Q' := Q) (l.drop n) n listed a' w' (fun j => by simp [List.getElem?_drop]) (by rw [hdl]; exact hL.1) (hL.2 w' hb hF)
    rwa [hdl] at this
  have H := rel_to_GE (n := n) (g := l.toArray.size - n) (Q := Q) (L := fun listed a F => Region.seqB .any l.toArray (l.toArray.size - n) n listed = true ∧ ∀ w', Le w w' → (∀ d, F d w') → wpList P l.toArray Q (l.drop n) a w') (Lq := fun a' F => ∀ w', Le w w' → (∀ d, F d w') → wpList P l.toArray Q (l.drop n) a' w')
    (fun w1 w2 h1 h2 => Le.trans h2 h1) hsel (HeadInv .any l.toArray n) (fun _ _ hi hj hjn => hi.set hj hjn) (fun k => Fs.contains k)
    (fun k o hk ho => by
      have h1 := (Bool.and_eq_true _ _ ▸ List.all_eq_true.1 hfs k (by simpa using hk) : _ ∧ _).2
      simp only [ho] at h1
      exact worldFree h1)
    (fun k hk => by
      have h1 := (Bool.and_eq_true _ _ ▸ List.all_eq_true.1 hfs k (by simpa using hk) : _ ∧ _).1
      simpa using h1)
    (fun k oi v c a w _ _ => hQ _ v c a w) hLs (fun listed hi => head_le hc hi)
    (fun listed i hi hin hiF hun j hj => by
      rcases Nat.lt_or_ge j n with h2 | h2
      · exact h2
      · exact absurd hj (tail_waitsF hs hnF hc hn hi _ i rfl hin hiF hun j h2)) (fun listed a F hL => seqB_ready hL.1)
    (Region.lexHead .any l.toArray (l.toArray.size - n)) (fun f k listed h => by simp only [Region.lexHead, Bool.and_eq_true] at h; exact ⟨h.1.1, h.1.2, h.2⟩) (fun k listed a F hk h hq => ⟨by subst hk; simpa [Region.lexHead] using h, hq⟩)
    (l.take n) 0 (Array.replicate l.toArray.size false) a (fun _ _ => True) w.drew (fun j hj => by
      have hj' : j < n := by rw [htl] at hj; exact hj
      simp [hj']) (by simpa using htl) inv0 (by rw [htl]; exact hlex) (fun _ _ _ _ _ => trivial) (fun _ _ _ => trivial) (Below.refl _ _).drew (fun _ => trivial) h
  refine wp_region_any hm ?_
  have := GE.any (Q := Q) (g := l.toArray.size - n) (fun w1 w2 h1 h2 => Le.trans h2 h1) hLs _ _ _ _ _ (fun _ _ _ _ _ => trivial) H (Below.refl w.heap.size w).drew (fun _ => trivial)
  rw [htl, show n + (l.toArray.size - n) = l.toArray.size by omega] at this
  exact this
end
end Go.Proofs.Ytpeojnknfonmlaa

/- Bounds and spans: the walks of the program's and of the reference's. -/
set_option linter.unusedVariables false
set_option linter.unusedSimpArgs false
namespace Go.Proofs.Ytpeojnknfonmlaa
open Go.RowKit
attribute [local go_sem] w_lt_add w_le_of w_le_add max2_i min2_i
theorem spec_l1Max_c (a b : Int) (w : World) : Calls Try.prog 87 #[.int .i64 a, .int .i64 b] w fun e w' => e = .returned (.int .i64 (max a b)) ∧ w = w' := by
  go_enter Try.func87, Try.ntmps87
  go_wp2
  all_goals go_ret
  all_goals exact ⟨ri (by omega), rfl⟩
theorem spec_l1Min_c (a b : Int) (w : World) : Calls Try.prog 88 #[.int .i64 a, .int .i64 b] w fun e w' => e = .returned (.int .i64 (min a b)) ∧ w = w' := by
  go_enter Try.func88, Try.ntmps88
  go_wp2
  all_goals go_ret
  all_goals exact ⟨ri (by omega), rfl⟩
theorem spec_l3Low_c (p : LL.Path) (A : Option Addr) (c : Nat) (k : Nat) (i : Int) (hi : i = k) (w : World) (h : RdS w A p.steps.length c p.steps) : Calls Try.prog 80 #[.agg #[.int .i64 p.q, .int .i64 p.s, .slice A p.steps.length c, .int .i64 p.fr, .int .i64 p.by_], .int .i64 i] w fun e w' => e = .returned (.int .i64 (LL.lowB p k)) ∧ Below w.heap.size w w' := by
  subst hi
  by_cases hlt : k < p.steps.length
  · obtain ⟨b, off, rfl, hbw⟩ := h.addr (by omega)
    obtain ⟨c0, c1, c2, c3, c4, c5, c6⟩ := h.S7 k hlt
    go_enter Try.func80, Try.ntmps80
    go_wp2
    go_ret
    exact ⟨ri (by simp [LL.lowB, hlt, LL.Path.at_]), (by repeat' (first | with_reducible exact Below.refl _ _ | with_reducible assumption | with_reducible refine b_alloc ?_ _ | with_reducible refine b_drewN ?_ _ | with_reducible refine b_drew ?_ | with_reducible refine b_set ?_ (by first | (simp only [World.size_setCell, World.size_alloc, World.size_drew]; omega) | (simp; done) | (simp; omega)) _ | with_reducible refine b_step ?_ (by with_reducible assumption)))⟩
  · go_enter Try.func80, Try.ntmps80
    go_wp2
    go_ret
    exact ⟨ri (by simp [LL.lowB, hlt]), (by repeat' (first | with_reducible exact Below.refl _ _ | with_reducible assumption | with_reducible refine b_alloc ?_ _ | with_reducible refine b_drewN ?_ _ | with_reducible refine b_drew ?_ | with_reducible refine b_set ?_ (by first | (simp only [World.size_setCell, World.size_alloc, World.size_drew]; omega) | (simp; done) | (simp; omega)) _ | with_reducible refine b_step ?_ (by with_reducible assumption)))⟩
theorem spec_l3High_c (p : LL.Path) (A : Option Addr) (c : Nat) (k : Nat) (i : Int) (hi : i = k) (w : World) (h : RdS w A p.steps.length c p.steps) : Calls Try.prog 81 #[.agg #[.int .i64 p.q, .int .i64 p.s, .slice A p.steps.length c, .int .i64 p.fr, .int .i64 p.by_], .int .i64 i] w fun e w' => e = .returned (.int .i64 (LL.highB p k)) ∧ Below w.heap.size w w' := by
  subst hi
  by_cases hlt : k < p.steps.length
  · obtain ⟨b, off, rfl, hbw⟩ := h.addr (by omega)
    obtain ⟨c0, c1, c2, c3, c4, c5, c6⟩ := h.S7 k hlt
    go_enter Try.func81, Try.ntmps81
    go_wp2
    go_ret
    exact ⟨ri (by simp [LL.highB, hlt, LL.Path.at_]), (by repeat' (first | with_reducible exact Below.refl _ _ | with_reducible assumption | with_reducible refine b_alloc ?_ _ | with_reducible refine b_drewN ?_ _ | with_reducible refine b_drew ?_ | with_reducible refine b_set ?_ (by first | (simp only [World.size_setCell, World.size_alloc, World.size_drew]; omega) | (simp; done) | (simp; omega)) _ | with_reducible refine b_step ?_ (by with_reducible assumption)))⟩
  · go_enter Try.func81, Try.ntmps81
    go_wp2
    go_ret
    exact ⟨ri (by simp [LL.highB, hlt]), (by repeat' (first | with_reducible exact Below.refl _ _ | with_reducible assumption | with_reducible refine b_alloc ?_ _ | with_reducible refine b_drewN ?_ _ | with_reducible refine b_drew ?_ | with_reducible refine b_set ?_ (by first | (simp only [World.size_setCell, World.size_alloc, World.size_drew]; omega) | (simp; done) | (simp; omega)) _ | with_reducible refine b_step ?_ (by with_reducible assumption)))⟩
theorem spec_l3Most_c (p : LL.Path) (A : Option Addr) (c : Nat) (k : Nat) (i : Int) (hi : i = k) (hlt : k < p.steps.length) (w : World) (h : RdS w A p.steps.length c p.steps) : Calls Try.prog 82 #[.agg #[.int .i64 p.q, .int .i64 p.s, .slice A p.steps.length c, .int .i64 p.fr, .int .i64 p.by_], .int .i64 i] w fun e w' => e = .returned (.int .i64 (LL.most p k)) ∧ Below w.heap.size w w' := by
  subst hi
  obtain ⟨b, off, rfl, hbw⟩ := h.addr (by omega)
  obtain ⟨c0, c1, c2, c3, c4, c5, c6⟩ := h.S7 k hlt
  go_enter Try.func82, Try.ntmps82
  go_wp2
  all_goals go_ret
  all_goals exact ⟨ri (by simp_all [LL.most, LL.Path.at_]), (by repeat' (first | with_reducible exact Below.refl _ _ | with_reducible assumption | with_reducible refine b_alloc ?_ _ | with_reducible refine b_drewN ?_ _ | with_reducible refine b_drew ?_ | with_reducible refine b_set ?_ (by first | (simp only [World.size_setCell, World.size_alloc, World.size_drew]; omega) | (simp; done) | (simp; omega)) _ | with_reducible refine b_step ?_ (by with_reducible assumption)))⟩
theorem impl_bounds_c (p : LL.Path) (A : Option Addr) (c : Nat) (k : Nat) (i : Int) (hi : i = k) (hk : k ≤ p.steps.length) (w : World) (h : RdS w A p.steps.length c p.steps) : Calls Try.prog 74 #[.agg #[.int .i64 p.q, .int .i64 p.s, .slice A p.steps.length c, .int .i64 p.fr, .int .i64 p.by_], .int .i64 i] w fun e w' => e = .returned (.tuple #[.int .i64 (LL.lowB p k), .int .i64 (LL.highB p k)]) ∧ Below w.heap.size w w' := by
  subst hi
  by_cases hlt : k < p.steps.length
  · obtain ⟨b, off, rfl, hbw⟩ := h.addr (by omega)
    obtain ⟨c0, c1, c2, c3, c4, c5, c6⟩ := h.S7 k hlt
    have hne : ((k : Int) == (p.steps.length : Int)) = false := by simp; omega
    go_enter Try.func74, Try.ntmps74
    go_wp2
    go_quiet (fail)
    go_wp2
    go_ret2
    exact ⟨by simp [LL.lowB, LL.highB, hlt, LL.Path.at_], (by repeat' (first | with_reducible exact Below.refl _ _ | with_reducible assumption | with_reducible refine b_alloc ?_ _ | with_reducible refine b_drewN ?_ _ | with_reducible refine b_drew ?_ | with_reducible refine b_set ?_ (by first | (simp only [World.size_setCell, World.size_alloc, World.size_drew]; omega) | (simp; done) | (simp; omega)) _ | with_reducible refine b_step ?_ (by with_reducible assumption)))⟩
  · obtain rfl : k = p.steps.length := by omega
    go_enter Try.func74, Try.ntmps74
    go_wp2
    go_quiet (fail)
    go_wp2
    go_ret2
    exact ⟨by simp [LL.lowB, LL.highB], (by repeat' (first | with_reducible exact Below.refl _ _ | with_reducible assumption | with_reducible refine b_alloc ?_ _ | with_reducible refine b_drewN ?_ _ | with_reducible refine b_drew ?_ | with_reducible refine b_set ?_ (by first | (simp only [World.size_setCell, World.size_alloc, World.size_drew]; omega) | (simp; done) | (simp; omega)) _ | with_reducible refine b_step ?_ (by with_reducible assumption)))⟩
end Go.Proofs.Ytpeojnknfonmlaa

/- Rows of spans; the reference's walk over the spans. -/
set_option linter.unusedVariables false
set_option linter.unusedSimpArgs false
namespace Go.Proofs.Ytpeojnknfonmlaa
open Go.RowKit
attribute [local go_sem] w_lt_add w_le_of w_le_add max2_i min2_i
def spanC (s : LL.Span) : List Value := [.int .i64 s.lo, .int .i64 s.hi]
theorem spanE : EncOk spanC 2 := ⟨fun _ => rfl, fun x u hu => by simp [spanC] at hu; rcases hu with h | h <;> subst h <;> rfl, by decide⟩
abbrev RdP := Rd spanC 2 16
def LL.sp0 : LL.Span := ⟨0, 0⟩
def LL.nthP (l : List LL.Span) (i : Nat) : LL.Span := l.getD i LL.sp0
theorem Rd.S2 {w : World} {b off n c : Nat} {xs : List LL.Span} (h : RdP w (some ⟨b, off, none⟩) n c xs) (k : Nat) (hk : k < n) :
    w.cell? ⟨b, off + k * 2, none⟩ = some (.int .i64 (LL.nthP xs k).lo) ∧ w.cell? ⟨b, off + k * 2 + 1, none⟩ = some (.int .i64 (LL.nthP xs k).hi) := by
  have hc : ∀ j u, (spanC (LL.nthP xs k))[j]? = some u → _ := h.here LL.sp0 k hk
  exact ⟨hc 0 _ rfl, hc 1 _ rfl⟩
/-- a call has made a row, and tells a bool beside it -/
def Mk2 {α : Type} (enc : α → List Value) (sz bytes e : Nat) (w : World) (xs : List α) (b : Bool) (en : Ending) (w' : World) : Prop := ∃ v, en = .returned (.tuple #[v, .bool b]) ∧ Own enc sz bytes e w' v xs ∧ (∀ k, v.ownBlock = some k → w.heap.size ≤ k) ∧ Below w.heap.size w w'
section
variable {α : Type} {enc : α → List Value} {sz bytes e : Nat}
/-- a row of the call's own that holds something lies in one block -/
theorem Own.form {w : World} {v : Value} {xs : List α} (h : Own enc sz bytes e w v xs) (hn : 0 < xs.length) : ∃ g cap, v = .slice (some ⟨g, 0, none⟩) xs.length cap ∧ xs.length ≤ cap ∧ g < w.heap.size ∧ ∀ i, w.frozen? ⟨g, i, none⟩ = false := by
  rcases h.row.2 with ⟨_, h0⟩ | ⟨g, cap, cur, rfl, _, hh, hc, _⟩
  · omega
  · exact ⟨g, cap, rfl, hc, (Array.getElem?_eq_some_iff.1 hh).1, fun i => by simp [World.frozen?, hh]⟩
theorem Own.rd_at {w : World} {g n c : Nat} {xs : List α} (h : Own enc sz bytes e w (.slice (some ⟨g, 0, none⟩) n c) xs) (E : EncOk enc sz) (hn : xs.length = n) : Rd enc sz bytes w (some ⟨g, 0, none⟩) n c xs := by
  subst hn
  obtain ⟨A, k, e1, hR⟩ := h.rd E
  cases e1
  exact hR
theorem Own.made' {w : World} {g : Nat} (hg : g = w.heap.size) : Own enc sz bytes e (w.alloc (.cells #[] e)) (.slice (some ⟨g, 0, none⟩) 0 0) ([] : List α) := by
  subst hg
  exact ⟨⟨by simp, .inr ⟨_, 0, #[], rfl, Nat.zero_le _, heap_alloc_new w _, Nat.le_refl _, Nat.zero_le _, by simp, by simp⟩⟩, by simp⟩
/-- the cells of a span of a row of the call's own -/
theorem Own.S2 {w : World} {e g n c : Nat} {f : Nat → LL.Span} (h : Own spanC 2 16 e w (.slice (some ⟨g, 0, none⟩) n c) (LL.tab n f)) (k : Nat) (hk : k < n) :
    w.cell? ⟨g, k * 2, none⟩ = some (.int .i64 (f k).lo) ∧ w.cell? ⟨g, k * 2 + 1, none⟩ = some (.int .i64 (f k).hi) ∧ w.frozen? ⟨g, k * 2, none⟩ = false ∧ w.frozen? ⟨g, k * 2 + 1, none⟩ = false := by
  have h2 := (h.rd_at spanE (LL.tab_len _ _)).S2 k hk
  have e1 : LL.nthP (LL.tab n f) k = f k := LL.tab_getD hk
  rw [e1, Nat.zero_add] at h2
  obtain ⟨g', cap, e2, _, _, hf⟩ := h.form (by rw [LL.tab_len]; omega)
  have e3 : g = g' := by injection e2 with e2; injection e2 with e2; injection e2
  subst e3
  exact ⟨h2.1, h2.2, hf _, hf _⟩
theorem Blk.bb {w w1 : World} {g n : Nat} {cs : Array Value} {t : TypeId} (h : Blk w g cs t) (hb : Below n w w1) (hg : g < n) : Blk w1 g cs t := ⟨(hb.block g hg).trans h.at_⟩
theorem Own.bb {w w1 : World} {n : Nat} {v : Value} {xs : List α} (h : Own enc sz bytes e w v xs) (hb : Below n w w1) (hg : ∀ k, v.ownBlock = some k → k < n) : Own enc sz bytes e w1 v xs := h.move fun k hk => hb.block k (hg k hk)
theorem Blk.grown {w w1 : World} {g : Nat} {cs : Array Value} {t : TypeId} {row : Option Nat} (h : Blk w g cs t) (hb : w.grownBy w1 row) (hg : row ≠ some g) : Blk w1 g cs t := ⟨(hb.block g (blk_lt h.at_) (Ne.symm hg)).trans h.at_⟩
theorem b_grown' {n : Nat} {w W w1 : World} {row : Option Nat} (h : Below n w W) (hg : W.grownBy w1 row) (hn : n ≤ W.heap.size) (hge : ∀ g, row = some g → n ≤ g) : Below n w w1 := h.grown hg hn hge
theorem mk2_mk {w w' : World} {v : Value} {xs : List α} {b c : Bool} (hO : Own enc sz bytes e w' v xs) (hc : c = b) (hge : ∀ k, v.ownBlock = some k → w.heap.size ≤ k) (hb : Below w.heap.size w w') : Mk2 enc sz bytes e w xs b (.returned (.tuple #[v, .bool c])) w' := by
  subst hc
  exact ⟨v, rfl, hO, hge, hb⟩
theorem Own.setLo {w : World} {e g n c : Nat} {xs : List LL.Span} (h : Own spanC 2 16 e w (.slice (some ⟨g, 0, none⟩) n c) xs) (hn : xs.length = n) (k : Nat) (hk : k < n) (x : Int) : Own spanC 2 16 e (w.setCell ⟨g, k * 2, none⟩ (.int .i64 x)) (.slice (some ⟨g, 0, none⟩) n c) (xs.set k ⟨x, (xs.getD k LL.sp0).hi⟩) := by
  subst hn
  obtain ⟨hrow, hg⟩ := ownsRow_setCells [.int .i64 x] (k * 2 + 0) h.row
  rw [flat_setMany spanE xs k 0 LL.sp0 ⟨x, (xs.getD k LL.sp0).hi⟩ [.int .i64 x] hk (by simp) (by simp [spanC])] at hrow
  exact ⟨by rw [List.length_set]; simpa [World.setCells] using hrow, by rw [List.length_set]; exact h.room⟩
theorem Own.setHi {w : World} {e g n c : Nat} {xs : List LL.Span} (h : Own spanC 2 16 e w (.slice (some ⟨g, 0, none⟩) n c) xs) (hn : xs.length = n) (k : Nat) (hk : k < n) (x : Int) : Own spanC 2 16 e (w.setCell ⟨g, k * 2 + 1, none⟩ (.int .i64 x)) (.slice (some ⟨g, 0, none⟩) n c) (xs.set k ⟨(xs.getD k LL.sp0).lo, x⟩) := by
  subst hn
  obtain ⟨hrow, hg⟩ := ownsRow_setCells [.int .i64 x] (k * 2 + 1) h.row
  rw [flat_setMany spanE xs k 1 LL.sp0 ⟨(xs.getD k LL.sp0).lo, x⟩ [.int .i64 x] hk (by simp) (by simp [spanC])] at hrow
  exact ⟨by rw [List.length_set]; simpa [World.setCells] using hrow, by rw [List.length_set]; exact h.room⟩
/-- a world under a name, with what is known of it -/
theorem wp_name {P : Program} {c : Code} {Q : Exit → Act → World → Prop} {a : Act} {w : World} (R : World → Prop) (h0 : R w) (h : ∀ w, R w → c.wp P Q a w) : c.wp P Q a w := h w h0
end
end Go.Proofs.Ytpeojnknfonmlaa
