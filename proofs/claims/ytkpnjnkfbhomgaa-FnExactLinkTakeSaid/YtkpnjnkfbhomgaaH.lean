/- A region whose order is drawn and that holds calls which make memory of their own: walked once, in the order of the text. Each call's answer is told by a relation that does not hang on the others. -/
import Derived.Test.YtkpnjnkfbhomgaaG
set_option linter.unusedVariables false
namespace Go.Proofs.Ytkpnjnkfbhomgaa
open Go.RowKit
section
variable {P : Program} {ops : Array Oper} {md : Region.Mode}
/-- all that stood is as it was -/
def Le (w w' : World) : Prop := Below w.heap.size w w'
theorem Le.refl (w : World) : Le w w := Below.refl _ _
theorem Le.trans {a b c : World} (h : Le a b) (k : Le b c) : Le a c := b_step h k
/-- what running an operation comes to, from world w on: a value and a later world of which R speaks -/
def Ran (P : Program) (R : Value → World → Prop) (w : World) : Result Next → Prop
  | .ok (.value u) w' => Le w w' ∧ R u w'
  | .ok (.enter f args) w' => Calls P f args w' fun e w'' => ∃ v, e = .returned v ∧ Le w w'' ∧ R v w''
  | _ => False
@[go_sem] theorem ran_value (R : Value → World → Prop) (w : World) (u : Value) (w' : World) : Ran P R w (.ok (.value u) w') = (Le w w' ∧ R u w') := rfl
@[go_sem] theorem ran_enter (R : Value → World → Prop) (w : World) (f : FuncId) (args : Array Value) (w' : World) : Ran P R w (.ok (.enter f args) w') = Calls P f args w' fun e w'' => ∃ v, e = .returned v ∧ Le w w'' ∧ R v w'' := rfl
theorem Ran.some {R : Value → World → Prop} {w : World} {r : Result Next} (h : Ran P R w r) : ∃ v w', Le w w' ∧ R v w' := by
  match r, h with
  | .ok (.value u) w', h => exact ⟨u, w', h⟩
  | .ok (.enter f args) w', h =>
    obtain ⟨e, w', fr, ⟨v, _, h2⟩, _⟩ := h []
    exact ⟨v, w', h2⟩
abbrev Facts := Nat → World → Prop
def setF (F : Facts) (i : Nat) (p : World → Prop) : Facts := fun d => if d = i then p else F d
/-- what is known of those an operation waits for -/
def Deps (md : Region.Mode) (F : Facts) (o : Oper) (w : World) : Prop := ∀ e ∈ o.after, Region.binds md e = true → F e.on w
/-- what is known behind it -/
def Known (Φ : Nat → Value → World → Prop) (md : Region.Mode) (F : Facts) (i : Nat) (o : Oper) (v : Value) (w : World) : Prop := Deps md F o w ∧ ∃ w0, Le w0 w ∧ Φ i v w0
def Mono (F : Facts) : Prop := ∀ d w w', Le w w' → F d w → F d w'
theorem Deps.mono {F : Facts} {o : Oper} {w w' : World} (hF : Mono F) (h : Deps md F o w) (hl : Le w w') : Deps md F o w' := fun e he hb => hF _ _ _ hl (h e he hb)
theorem Mono.deps {F : Facts} (hF : Mono F) (i : Nat) (o : Oper) : Mono (setF F i (Deps md F o)) := fun d w w' hl h => by
  unfold setF at *; split
  · rename_i e; rw [if_pos e] at h; exact h.mono hF hl
  · rename_i e; rw [if_neg e] at h; exact hF _ _ _ hl h
theorem Mono.known {F : Facts} (hF : Mono F) (Φ : Nat → Value → World → Prop) (i : Nat) (o : Oper) (v : Value) : Mono (setF F i (Known Φ md F i o v)) := fun d w w' hl h => by
  unfold setF at *; split
  · rename_i e; rw [if_pos e] at h
    obtain ⟨h1, w0, h2, h3⟩ := h
    exact ⟨h1.mono hF hl, w0, h2.trans hl, h3⟩
  · rename_i e; rw [if_neg e] at h; exact hF _ _ _ hl h
variable (P md ops) (B : World → Prop) (Φ : Nat → Value → World → Prop) (Rl : Nat → Bool)
/-- it yields v, wherever what it waits for is known, and leaves the world -/
def Plain (o : Oper) (v : Value) (F : Facts) (a : Act) : Prop :=
  (Region.wanted o (yielded ops a.tmps) = true ∧ ∀ w, B w → Deps md F o w → (execOp a.eval o).run P w = .ok (.value v) w) ∨ (Region.wanted o (yielded ops a.tmps) = false ∧ v = undef)
def Told (i : Nat) (o : Oper) (F : Facts) (a : Act) : Prop :=
  Region.wanted o (yielded ops a.tmps) = true ∧ ∀ w, B w → Deps md F o w → Ran P (Φ i) w ((execOp a.eval o).run P w)
def GR (n : Nat) (L : Array Bool → Act → Facts → Prop) : Nat → Array Bool → Act → Facts → Prop
  | 0, listed, a, F => L listed a F
  | f + 1, listed, a, F => Region.ready md ops listed ≠ [] ∧ ∀ i ∈ Region.ready md ops listed, i < n ∧ ∃ o, ops[i]? = some o ∧
      ((Rl i = false ∧ ∃ v, Plain P ops md B o v F a ∧ GR n L f (listed.setIfInBounds i true) (a.put o.dst v) (setF F i (Deps md F o))) ∨
       (Rl i = true ∧ Told P ops md B Φ i o F a ∧ ∀ v, (∃ w, B w ∧ ∀ d, setF F i (Known Φ md F i o v) d w) → GR n L f (listed.setIfInBounds i true) (a.put o.dst v) (setF F i (Known Φ md F i o v))))
variable {P md ops B Φ Rl}
theorem Plain.same {o : Oper} {v : Value} {F F' : Facts} {a a' : Act} (h : Plain P ops md B o v F a) (he : execOp a'.eval o = execOp a.eval o) (hw : Region.wanted o (yielded ops a'.tmps) = Region.wanted o (yielded ops a.tmps)) (hF : ∀ w, Deps md F' o w → Deps md F o w) : Plain P ops md B o v F' a' := by
  unfold Plain at *; rw [he, hw]; exact h.imp (fun ⟨h1, h2⟩ => ⟨h1, fun w hb hd => h2 w hb (hF w hd)⟩) id
theorem Told.same {i : Nat} {o : Oper} {F F' : Facts} {a a' : Act} (h : Told P ops md B Φ i o F a) (he : execOp a'.eval o = execOp a.eval o) (hw : Region.wanted o (yielded ops a'.tmps) = Region.wanted o (yielded ops a.tmps)) (hF : ∀ w, Deps md F' o w → Deps md F o w) : Told P ops md B Φ i o F' a' := by
  unfold Told at *; rw [he, hw]; exact ⟨h.1, fun w hb hd => h.2 w hb (hF w hd)⟩
theorem Plain.one {o : Oper} {v v' : Value} {F : Facts} {a : Act} {w : World} (h : Plain P ops md B o v F a) (h' : Plain P ops md B o v' F a) (hb : B w) (hd : Deps md F o w) : v = v' := by
  rcases h with ⟨h1, h2⟩ | ⟨h1, rfl⟩ <;> rcases h' with ⟨h3, h4⟩ | ⟨h3, rfl⟩
  · have := (h2 w hb hd).symm.trans (h4 w hb hd)
    injection this with this
    injection this
  · rw [h1] at h3; cases h3
  · rw [h1] at h3; cases h3
  · rfl
theorem deps_set {F : Facts} {i : Nat} {p : World → Prop} {o : Oper} (hno : ∀ e ∈ o.after, Region.binds md e = true → e.on ≠ i) (w : World) : Deps md (setF F i p) o w ↔ Deps md F o w := by
  constructor
  · intro h e he hb; have := h e he hb; unfold setF at this; rwa [if_neg (hno e he hb)] at this
  · intro h e he hb; unfold setF; rw [if_neg (hno e he hb)]; exact h e he hb
theorem setF_comm {F : Facts} {i j : Nat} (p q : World → Prop) (h : i ≠ j) : setF (setF F i p) j q = setF (setF F j q) i p := by
  funext d; unfold setF
  by_cases h1 : d = i <;> by_cases h2 : d = j <;> simp_all
theorem GR.any {n g : Nat} {L : Array Bool → Act → Facts → Prop} {Q : Exit → Act → World → Prop} (hB : ∀ w w', Le w w' → B w → B w')
    (hL : ∀ listed a F w, L listed a F → B w → (∀ d, F d w) → wpAny P md ops Q g listed a w) :
    ∀ (f : Nat) (listed : Array Bool) (a : Act) (F : Facts) (w : World), Mono F → GR P ops md B Φ Rl n L f listed a F → B w → (∀ d, F d w) → wpAny P md ops Q (f + g) listed a w
  | 0, listed, a, F, w, _, h, hb, hF => by rw [Nat.zero_add]; exact hL _ _ _ _ h hb hF
  | f + 1, listed, a, F, w, hm, h, hb, hF => by
    rw [show f + 1 + g = (f + g) + 1 by omega]
    refine ⟨fun h0 => absurd h0 h.1, fun i hi => ?_⟩
    obtain ⟨_, o, ho, h1⟩ := h.2 i hi
    have hd : Deps md F o w := fun e _ _ => hF _
    unfold wpOp
    simp only [ho]
    rcases h1 with ⟨_, v, hp, hr⟩ | ⟨_, ht, hr⟩
    · have key : wpAny P md ops Q (f + g) (listed.setIfInBounds i true) (a.put o.dst v) w := GR.any hB hL f _ _ _ _ (hm.deps i o) hr hb fun d => by
        unfold setF; split
        · exact hd
        · exact hF d
      rcases hp with ⟨h2, h3⟩ | ⟨h2, rfl⟩
      · rw [if_pos h2]
        refine .inl ?_
        unfold Oper.wp
        rw [h3 w hb hd]
        exact key
      · rw [if_neg (by simp [h2])]; exact key
    · have key : ∀ v w', Le w w' → Φ i v w' → wpAny P md ops Q (f + g) (listed.setIfInBounds i true) (a.put o.dst v) w' := fun v w' hl hφ => by
        have hk : Known Φ md F i o v w' := ⟨hd.mono hm hl, w', Le.refl _, hφ⟩
        have hall : ∀ d, setF F i (Known Φ md F i o v) d w' := fun d => by
          unfold setF; split
          · exact hk
          · exact hm _ _ _ hl (hF d)
        exact GR.any hB hL f _ _ _ _ (hm.known Φ i o v) (hr v ⟨w', hB _ _ hl hb, hall⟩) (hB _ _ hl hb) hall
      rw [if_pos ht.1]
      refine .inl ?_
      have h3 := ht.2 w hb hd
      unfold Oper.wp
      generalize (execOp a.eval o).run P w = r at *
      match r, h3 with
      | .ok (.value u) w', h3 => exact key _ _ h3.1 h3.2
      | .ok (.enter f' args) w', h3 => exact Calls.mono h3 fun e w'' ⟨v, he, hl, hφ⟩ => by subst he; exact key _ _ hl hφ
/-- the part of one operation, i, at a state -/
def Part (n : Nat) (i : Nat) (o : Oper) (F : Facts) (a : Act) (X : Value → Facts → Prop) : Prop :=
  (Rl i = false ∧ ∃ v, Plain P ops md B o v F a ∧ X v (setF F i (Deps md F o))) ∨ (Rl i = true ∧ Told P ops md B Φ i o F a ∧ ∀ v, (∃ w, B w ∧ ∀ d, setF F i (Known Φ md F i o v) d w) → X v (setF F i (Known Φ md F i o v)))
theorem GR.first {n i : Nat} {oi : Oper} {L : Array Bool → Act → Facts → Prop} (hBm : ∀ w w', Le w w' → B w → B w') (hi : ops[i]? = some oi) (hsel : ∀ (j : Nat) (o : Oper) cs b, ops[j]? = some o → o.op ≠ .select cs b)
    (I : Array Bool → Prop) (hI : ∀ listed j, I listed → j ∈ Region.ready md ops listed → j < n → I (listed.setIfInBounds j true))
    (hwait : ∀ listed, I listed → listed.getD i true = false → ∀ j ∈ Region.ready md ops listed, j < n) (hin : i < n)
    (hdone : ∀ listed a F, L listed a F → ∀ j ∈ Region.ready md ops listed, n ≤ j) :
    ∀ (f : Nat) (listed : Array Bool) (a : Act) (F : Facts) (w : World), Mono F → (∀ d, listed.getD d true = false → ∀ w, F d w) → B w → (∀ d, F d w) → I listed → (∀ j oj, ops[j]? = some oj → j ≠ i → listed.getD j true = false → (∀ e ∈ oj.after, Region.binds md e = true → e.on ≠ i) → oi.apart ops oj = true) →
      i ∈ Region.ready md ops listed → Part (P := P) (ops := ops) (md := md) (B := B) (Φ := Φ) (Rl := Rl) n i oi F a (fun v F' => GR P ops md B Φ Rl n L f (listed.setIfInBounds i true) (a.put oi.dst v) F') → GR P ops md B Φ Rl n L (f + 1) listed a F := by
  intro f
  induction f with
  | zero =>
    intro listed a F w hm hU hb hF hinv _ hr H
    refine ⟨fun h => (by rw [h] at hr; cases hr), fun j hj => ?_⟩
    have hjn := hwait listed hinv (mem_ready.1 hr).1 j hj
    refine ⟨hjn, ?_⟩
    by_cases hji : j = i
    · subst hji; exact ⟨oi, hi, H⟩
    · exfalso
      have : ∃ a' F', L (listed.setIfInBounds i true) a' F' := by
        rcases H with ⟨_, v, _, h⟩ | ⟨_, ht, h⟩
        · exact ⟨_, _, h⟩
        · obtain ⟨v, w', hl, hφ⟩ := (ht.2 w hb fun e _ _ => hF _).some
          exact ⟨_, _, h v ⟨w', hBm _ _ hl hb, fun d => by
            unfold setF; split
            · exact ⟨fun e _ _ => hm _ _ _ hl (hF _), w', Le.refl _, hφ⟩
            · exact hm _ _ _ hl (hF d)⟩⟩
      obtain ⟨a', F', h⟩ := this
      have := hdone _ _ _ h j (ready_mono hj hji)
      omega
  | succ f ih =>
    intro listed a F w hm hU hb hF hinv hfree hr H
    have hun := (mem_ready.1 hr).1
    refine ⟨fun h => (by rw [h] at hr; cases hr), fun j hj => ?_⟩
    have hjn := hwait listed hinv hun j hj
    refine ⟨hjn, ?_⟩
    by_cases hji : j = i
    · subst hji; exact ⟨oi, hi, H⟩
    · obtain ⟨_, oj, hoj, hall⟩ := mem_ready.1 hj
      have hnot : ∀ e ∈ oj.after, Region.binds md e = true → e.on ≠ i := fun e he hbd heq => by
        have h1 := hall e he hbd
        rw [heq, getD_both hun] at h1
        cases h1
      obtain ⟨oi', hoi', halli⟩ := (mem_ready.1 hr).2
      obtain rfl : oi' = oi := Option.some.inj (hoi'.symm.trans hi)
      have hnoti : ∀ e ∈ oi'.after, Region.binds md e = true → e.on ≠ j := fun e he hbd heq => by
        have h1 := halli e he hbd
        rw [heq, getD_both (mem_ready.1 hj).1] at h1
        cases h1
      obtain ⟨p1, p2, p3⟩ := Oper.apart_spec (hfree j oj hoj hji (mem_ready.1 hj).1 hnot)
      have ej : ∀ v, execOp (a.put oi'.dst v).eval oj = execOp a.eval oj := fun v => execOp_put oj (fun cs b => hsel j oj cs b hoj) a oi'.dst v p1
      have wj : ∀ v, Region.wanted oj (yielded ops (a.put oi'.dst v).tmps) = Region.wanted oj (yielded ops a.tmps) := fun v => wanted_put oj a oi'.dst v p1
      have ei : ∀ v, execOp (a.put oj.dst v).eval oi' = execOp a.eval oi' := fun v => execOp_put oi' (fun cs b => hsel i oi' cs b hi) a oj.dst v p3
      have wi : ∀ v, Region.wanted oi' (yielded ops (a.put oj.dst v).tmps) = Region.wanted oi' (yielded ops a.tmps) := fun v => wanted_put oi' a oj.dst v p3
      have hdj : Deps md F oj w := fun e _ _ => hF _
      -- j's part at a state in which i has come up goes over to the state without
      have back : ∀ (vi : Value) (p : World → Prop), GR P ops md B Φ Rl n L (f + 1) (listed.setIfInBounds i true) (a.put oi'.dst vi) (setF F i p) →
          (Rl j = false ∧ ∃ v, Plain P ops md B oj v F a ∧ GR P ops md B Φ Rl n L f ((listed.setIfInBounds i true).setIfInBounds j true) ((a.put oi'.dst vi).put oj.dst v) (setF (setF F i p) j (Deps md F oj))) ∨
          (Rl j = true ∧ Told P ops md B Φ j oj F a ∧ ∀ v, (∃ w, B w ∧ ∀ d, setF (setF F i p) j (Known Φ md F j oj v) d w) → GR P ops md B Φ Rl n L f ((listed.setIfInBounds i true).setIfInBounds j true) ((a.put oi'.dst vi).put oj.dst v) (setF (setF F i p) j (Known Φ md F j oj v))) := by
        intro vi p h
        have hD : Deps md (setF F i p) oj = Deps md F oj := funext fun w => propext (deps_set hnot w)
        have hK : ∀ v, Known Φ md (setF F i p) j oj v = Known Φ md F j oj v := fun v => by unfold Known; rw [hD]
        obtain ⟨_, oj', hoj', h2⟩ := h.2 j (ready_mono hj hji)
        obtain rfl : oj' = oj := Option.some.inj (hoj'.symm.trans hoj)
        rcases h2 with ⟨r, v, h3, h4⟩ | ⟨r, h3, h4⟩
        · exact .inl ⟨r, v, h3.same (ej vi).symm (wj vi).symm (fun w h => by rwa [hD]), by rwa [hD] at h4⟩
        · refine .inr ⟨r, h3.same (ej vi).symm (wj vi).symm (fun w h => by rwa [hD]), fun v hv => ?_⟩
          have := h4 v (by rwa [hK])
          rwa [hK] at this
      have hDi : ∀ p, Deps md (setF F j p) oi' = Deps md F oi' := fun p => funext fun w => propext (deps_set hnoti w)
      have hKi : ∀ p v, Known Φ md (setF F j p) i oi' v = Known Φ md F i oi' v := fun p v => by unfold Known; rw [hDi]
      have freej : ∀ k ok, ops[k]? = some ok → k ≠ i → (listed.setIfInBounds j true).getD k true = false → (∀ e ∈ ok.after, Region.binds md e = true → e.on ≠ i) → oi'.apart ops ok = true := fun k ok hk hki hunk hno => by
        refine hfree k ok hk hki ?_ hno
        by_cases hjk : j = k
        · subst hjk; exact (mem_ready.1 hj).1
        · rw [getD_set_ne true hjk] at hunk; exact hunk
      refine ⟨oj, hoj, ?_⟩
      -- what i asks, behind j
      have go : ∀ (vj : Value) (p : World → Prop) (w' : World), Mono (setF F j p) → B w' → (∀ d, setF F j p d w') →
          ((Rl i = false ∧ ∃ v, Plain P ops md B oi' v F a ∧ GR P ops md B Φ Rl n L f ((listed.setIfInBounds i true).setIfInBounds j true) ((a.put oi'.dst v).put oj.dst vj) (setF (setF F i (Deps md F oi')) j p)) ∨
            (Rl i = true ∧ Told P ops md B Φ i oi' F a ∧ ∀ v, (∃ w, B w ∧ ∀ d, setF (setF F j p) i (Known Φ md F i oi' v) d w) → GR P ops md B Φ Rl n L f ((listed.setIfInBounds i true).setIfInBounds j true) ((a.put oi'.dst v).put oj.dst vj) (setF (setF F i (Known Φ md F i oi' v)) j p))) →
          GR P ops md B Φ Rl n L (f + 1) (listed.setIfInBounds j true) (a.put oj.dst vj) (setF F j p) := by
        intro vj p w' hm' hb' hF' h
        refine ih _ _ _ w' hm' (fun d hd w => ?_) hb' hF' (hI _ _ hinv hj hjn) freej (ready_mono hr (Ne.symm hji)) ?_
        · by_cases hjd : j = d
          · subst hjd
            exfalso
            rcases Nat.lt_or_ge j listed.size with h' | h'
            · simp [h'] at hd
            · have := (mem_ready.1 hj).1
              simp [Array.getElem?_eq_none h'] at this
          · rw [getD_set_ne true hjd] at hd
            unfold setF; rw [if_neg (Ne.symm hjd)]; exact hU d hd w
        rcases h with ⟨r, vi, h3, h4⟩ | ⟨r, h3, h4⟩
        · refine .inl ⟨r, vi, h3.same (ei vj) (wi vj) (fun w h => by rwa [hDi] at h), ?_⟩
          show GR P ops md B Φ Rl n L f _ _ _
          rw [hDi, Array.setIfInBounds_comm _ _ hji, ← Act.put_comm a vi vj p2, ← setF_comm _ _ (Ne.symm hji)]
          exact h4
        · refine .inr ⟨r, h3.same (ei vj) (wi vj) (fun w h => by rwa [hDi] at h), fun vi hvi => ?_⟩
          rw [hKi] at hvi ⊢
          show GR P ops md B Φ Rl n L f _ _ _
          rw [Array.setIfInBounds_comm _ _ hji, ← Act.put_comm a vi vj p2, ← setF_comm _ _ (Ne.symm hji)]
          exact h4 vi hvi
      have hFj : ∀ w', Le w w' → ∀ p : World → Prop, p w' → ∀ d, setF F j p d w' := fun w' hl p hp d => by
        unfold setF; split
        · exact hp
        · exact hm _ _ _ hl (hF d)
      have inhab : Rl i = true → Told P ops md B Φ i oi' F a → ∃ v, ∃ w', B w' ∧ ∀ d, setF F i (Known Φ md F i oi' v) d w' := fun _ ht => by
        obtain ⟨v, w', hl, hφ⟩ := (ht.2 w hb fun e _ _ => hF _).some
        refine ⟨v, w', hBm _ _ hl hb, fun d => ?_⟩
        unfold setF; split
        · exact ⟨fun e _ _ => hm _ _ _ hl (hF _), w', Le.refl _, hφ⟩
        · exact hm _ _ _ hl (hF d)
      have forget : ∀ p q w', (∀ d, setF (setF F j p) i q d w') → ∀ d, setF F i q d w' := fun p q w' h d => by
        have h1 := h d
        unfold setF at h1 ⊢
        by_cases hd : d = i
        · rw [if_pos hd] at h1 ⊢; exact h1
        · rw [if_neg hd] at h1 ⊢
          by_cases hd2 : d = j
          · subst hd2; exact hU _ (mem_ready.1 hj).1 w'
          · rw [if_neg hd2] at h1; exact h1
      cases hRj : Rl j with
      | false =>
        refine .inl ⟨rfl, ?_⟩
        rcases H with ⟨r, vi, h3, h4⟩ | ⟨r, h3, h4⟩
        · rcases back vi _ h4 with ⟨_, vj, h5, h6⟩ | ⟨r5, _⟩
          · exact ⟨vj, h5, go vj _ w (hm.deps j oj) hb (hFj w (Le.refl _) _ hdj) (.inl ⟨r, vi, h3, h6⟩)⟩
          · rw [hRj] at r5; cases r5
        · obtain ⟨v0, hv0⟩ := inhab r h3
          rcases back v0 _ (h4 v0 hv0) with ⟨_, vj, h5, h6⟩ | ⟨r5, _⟩
          · refine ⟨vj, h5, go vj _ w (hm.deps j oj) hb (hFj w (Le.refl _) _ hdj) (.inr ⟨r, h3, fun vi hvi => ?_⟩)⟩
            obtain ⟨w2, hB2, hF2⟩ := hvi
            rcases back vi _ (h4 vi ⟨w2, hB2, forget _ _ _ hF2⟩) with ⟨_, vj', h7, h8⟩ | ⟨r5, _⟩
            · obtain rfl := h5.one h7 hb hdj
              exact h8
            · rw [hRj] at r5; cases r5
          · rw [hRj] at r5; cases r5
      | true =>
        have hT : Told P ops md B Φ j oj F a := by
          rcases H with ⟨r, vi, h3, h4⟩ | ⟨r, h3, h4⟩
          · rcases back vi _ h4 with ⟨r5, _⟩ | ⟨_, h5, _⟩
            · rw [hRj] at r5; cases r5
            · exact h5
          · obtain ⟨v0, hv0⟩ := inhab r h3
            rcases back v0 _ (h4 v0 hv0) with ⟨r5, _⟩ | ⟨_, h5, _⟩
            · rw [hRj] at r5; cases r5
            · exact h5
        refine .inr ⟨rfl, hT, fun vj hvj => ?_⟩
        obtain ⟨w', hb', hF'⟩ := hvj
        refine go vj _ w' (hm.known Φ j oj vj) hb' hF' ?_
        rcases H with ⟨r, vi, h3, h4⟩ | ⟨r, h3, h4⟩
        · rcases back vi _ h4 with ⟨r5, _⟩ | ⟨_, _, h6⟩
          · rw [hRj] at r5; cases r5
          · refine .inl ⟨r, vi, h3, h6 vj ⟨w', hb', fun d => ?_⟩⟩
            have h1 := hF' d
            unfold setF at h1 ⊢
            by_cases hd : d = j
            · rw [if_pos hd] at h1 ⊢; exact h1
            · rw [if_neg hd] at h1 ⊢
              by_cases hd2 : d = i
              · rw [if_pos hd2]
                intro e he hbd
                have h2 := hF' e.on
                unfold setF at h2
                rwa [if_neg (hnoti e he hbd)] at h2
              · rw [if_neg hd2]; exact h1
        · refine .inr ⟨r, h3, fun vi hvi => ?_⟩
          obtain ⟨w2, hB2, hF2⟩ := hvi
          rcases back vi _ (h4 vi ⟨w2, hB2, forget _ _ _ hF2⟩) with ⟨r5, _⟩ | ⟨_, _, h6⟩
          · rw [hRj] at r5; cases r5
          · refine h6 vj ⟨w2, hB2, fun d => ?_⟩
            rw [setF_comm _ _ (Ne.symm hji)]
            exact hF2 d
variable (P md ops B Φ Rl) in
/-- the operations of a list from number k on, in the order of the text; then L -/
def RelAll (L : Act → Facts → Prop) : Nat → List Oper → Act → Facts → Prop
  | _, [], a, F => L a F
  | k, o :: l, a, F =>
    (Rl k = false ∧ ∃ v, Plain P ops md B o v F a ∧ RelAll L (k + 1) l (a.put o.dst v) (setF F k (Deps md F o))) ∨
    (Rl k = true ∧ Told P ops md B Φ k o F a ∧ ∀ v, (∃ w, B w ∧ ∀ d, setF F k (Known Φ md F k o v) d w) → RelAll L (k + 1) l (a.put o.dst v) (setF F k (Known Φ md F k o v)))
theorem RelAll.weaker {L : Act → Facts → Prop} (hL : ∀ a F F', (∀ d w, F d w → F' d w) → L a F' → L a F) : ∀ (l : List Oper) (k : Nat) (a : Act) (F F' : Facts), (∀ d w, F d w → F' d w) → RelAll P ops md B Φ Rl L k l a F' → RelAll P ops md B Φ Rl L k l a F
  | [], _, a, F, F', hF, h => hL a F F' hF h
  | o :: l, k, a, F, F', hF, h => by
    have hD : ∀ w, Deps md F o w → Deps md F' o w := fun w hd e he hb => hF _ _ (hd e he hb)
    have hK : ∀ v w, Known Φ md F k o v w → Known Φ md F' k o v w := fun v w h => ⟨hD w h.1, h.2⟩
    have hset : ∀ p p' : World → Prop, (∀ w, p w → p' w) → ∀ d w, setF F k p d w → setF F' k p' d w := fun p p' hp d w h => by
      unfold setF at *; split
      · rename_i e; rw [if_pos e] at h; exact hp w h
      · rename_i e; rw [if_neg e] at h; exact hF _ _ h
    rcases h with ⟨r, v, h1, h2⟩ | ⟨r, h1, h2⟩
    · exact .inl ⟨r, v, h1.same rfl rfl hD, RelAll.weaker hL l _ _ _ _ (hset _ _ hD) h2⟩
    · exact .inr ⟨r, h1.same rfl rfl hD, fun v ⟨w, hb, hw⟩ => RelAll.weaker hL l _ _ _ _ (hset _ _ (hK v)) (h2 v ⟨w, hb, fun d => hset _ _ (hK v) d w (hw d)⟩)⟩
theorem set_true {listed : Array Bool} {k d : Nat} {F : Facts} {p : World → Prop} (hk : listed.getD k true = false) (hU : ∀ d, listed.getD d true = false → ∀ w, F d w) (hd : (listed.setIfInBounds k true).getD d true = false) (w : World) : setF F k p d w := by
  by_cases h : k = d
  · subst h
    exfalso
    rcases Nat.lt_or_ge k listed.size with h' | h'
    · simp [h'] at hd
    · simp [Array.getElem?_eq_none h'] at hk
  · rw [getD_set_ne true h] at hd
    unfold setF; rw [if_neg (Ne.symm h)]; exact hU d hd w
theorem set_all {F : Facts} {k : Nat} {p : World → Prop} {w : World} (hF : ∀ d, F d w) (hp : p w) : ∀ d, setF F k p d w := fun d => by
  unfold setF; split
  · exact hp
  · exact hF d
theorem rel_to_GR {n : Nat} {L : Array Bool → Act → Facts → Prop} {Lq : Act → Facts → Prop} (hBm : ∀ w w', Le w w' → B w → B w') (hsel : Region.noSelect ops = true)
    (I : Array Bool → Prop) (hI : ∀ listed j, I listed → j ∈ Region.ready md ops listed → j < n → I (listed.setIfInBounds j true))
    (hwait : ∀ listed i, I listed → i < n → listed.getD i true = false → ∀ j ∈ Region.ready md ops listed, j < n) (hdone : ∀ listed a F, L listed a F → ∀ j ∈ Region.ready md ops listed, n ≤ j)
    (chk : Nat → Nat → Array Bool → Bool) (hchk : ∀ f k listed, chk (f + 1) k listed = true → (Region.ready md ops listed).contains k = true ∧ Region.free md ops listed k = true ∧ chk f (k + 1) (listed.setIfInBounds k true) = true)
    (hend : ∀ k listed a F, k = n → chk 0 k listed = true → Lq a F → L listed a F) :
    ∀ (l : List Oper) (k : Nat) (listed : Array Bool) (a : Act) (F : Facts) (w : World), (∀ j, j < l.length → l[j]? = ops[k + j]?) → k + l.length = n → I listed → chk l.length k listed = true → Mono F → (∀ d, listed.getD d true = false → ∀ w, F d w) → B w → (∀ d, F d w) →
    RelAll P ops md B Φ Rl Lq k l a F → GR P ops md B Φ Rl n L l.length listed a F
  | [], k, listed, a, F, w, _, hk, _, hB, _, _, _, _, h => hend k listed a F (by simpa using hk) (by simpa using hB) h
  | o :: l, k, listed, a, F, w, hl, hk, inv, hB, hm, hU, hb, hF, h => by
    have h0 : ops[k]? = some o := by simpa using (hl 0 (by simp)).symm
    obtain ⟨hr, hf, hB'⟩ := hchk l.length k listed (by simpa using hB)
    have hkn : k < n := by simp only [List.length_cons] at hk; omega
    have hr' : k ∈ Region.ready md ops listed := by simpa using hr
    have hl' : ∀ j, j < l.length → l[j]? = ops[k + 1 + j]? := fun j hj => by have := hl (j + 1) (by simp; omega); simpa [Nat.add_assoc, Nat.add_comm 1 j] using this
    have hk' : k + 1 + l.length = n := by simp only [List.length_cons] at hk; omega
    refine GR.first hBm h0 (Region.noSelect_spec hsel) I hI (fun listed hi hun j hj => hwait listed k hi hkn hun j hj) hkn hdone l.length listed a F w hm hU hb hF inv (Region.free_spec h0 hf) hr' ?_
    have hdw : Deps md F o w := fun e _ _ => hF _
    rcases h with ⟨r, v, h1, h2⟩ | ⟨r, h1, h2⟩
    · exact .inl ⟨r, v, h1, rel_to_GR hBm hsel I hI hwait hdone chk hchk hend l (k + 1) _ _ _ w hl' hk' (hI _ _ inv hr' hkn) hB' (hm.deps k o) (fun d hd w => set_true (mem_ready.1 hr').1 hU hd w) hb (set_all hF hdw) h2⟩
    · refine .inr ⟨r, h1, fun v hv => ?_⟩
      obtain ⟨w', hb', hF'⟩ := id hv
      exact rel_to_GR hBm hsel I hI hwait hdone chk hchk hend l (k + 1) _ _ _ w' hl' hk' (hI _ _ inv hr' hkn) hB' (hm.known Φ k o v) (fun d hd w => set_true (mem_ready.1 hr').1 hU hd w) hb' hF' (h2 v hv)
/-- the told ones by number -/
abbrev Tell := List (Nat × (Value → World → Prop))
def Tell.is (T : Tell) (i : Nat) : Bool := T.any (·.1 == i)
def Tell.at_ (T : Tell) (i : Nat) (v : Value) (w : World) : Prop := ∀ x ∈ T, x.1 = i → x.2 v w
/-- A drawn region. -/
theorem rel_b {id : Nat} {Q : Exit → Act → World → Prop} {a : Act} {w : World} {l : List Oper} (T : Tell) (hm : P.follows .mixedOrders = true) (hB : Region.lexB .any l.toArray = true)
    (h : RelAll P l.toArray .any (Le w) T.at_ T.is (fun a' F => ∀ w', Le w w' → (∀ d, F d w') → Q .normal a' w') 0 l a (fun _ _ => True)) : (Code.region id l.toArray true).wp P Q a w := by
  simp only [Region.lexB, Bool.and_eq_true] at hB
  have H := rel_to_GR (n := l.toArray.size) (L := fun listed a F => Region.ready .any l.toArray listed = [] ∧ ∀ w', Le w w' → (∀ d, F d w') → Q .normal a w') (Lq := fun a' F => ∀ w', Le w w' → (∀ d, F d w') → Q .normal a' w')
    (fun w1 w2 h1 h2 => Le.trans h2 h1) hB.1 (fun _ => True) (fun _ _ _ _ _ => trivial)
    (fun listed i _ _ _ j hj => by obtain ⟨_, o, ho, _⟩ := mem_ready.1 hj; exact (Array.getElem?_eq_some_iff.1 ho).1) (fun listed a F hL j hj => by rw [hL.1] at hj; cases hj)
    (Region.lexFrom .any l.toArray) (fun f k listed h => by simp only [Region.lexFrom, Bool.and_eq_true] at h; exact ⟨h.1.1, h.1.2, h.2⟩) (fun k listed a F _ h hq => ⟨by simpa [Region.lexFrom] using h, hq⟩)
    l 0 (Array.replicate l.toArray.size false) a (fun _ _ => True) w.drew (by simp) (by simp) trivial (by simpa using hB.2) (fun _ _ _ _ _ => trivial) (fun _ _ _ => trivial) (Below.refl _ _).drew (fun _ => trivial) h
  refine wp_region_any hm ?_
  have := GR.any (Q := Q) (g := 0) (fun w1 w2 h1 h2 => Le.trans h2 h1) (fun listed a' F w' hL hb hF => ⟨hL.1, hL.2 w' hb hF⟩) _ _ _ _ _ (fun _ _ _ _ _ => trivial) H (Below.refl w.heap.size w).drew (fun _ => trivial)
  simpa using this
/-- A drawn region, its last operations (from number n on) one behind the other. -/
theorem rel_tail_b {id : Nat} {Q : Exit → Act → World → Prop} {a : Act} {w : World} {l : List Oper} (n : Nat) (T : Tell) (hm : P.follows .mixedOrders = true) (hB : Region.lexTailB .any l.toArray n = true)
    (h : RelAll P l.toArray .any (Le w) T.at_ T.is (fun a' F => ∀ w', Le w w' → (∀ d, F d w') → wpList P l.toArray Q (l.drop n) a' w') 0 (l.take n) a (fun _ _ => True)) : (Code.region id l.toArray true).wp P Q a w := by
  simp only [Region.lexTailB, Bool.and_eq_true, decide_eq_true_eq] at hB
  obtain ⟨⟨⟨⟨hsel, hn⟩, hs⟩, hc⟩, hlex⟩ := hB
  have hn' : n < l.length := by simpa using hn
  have htl : (l.take n).length = n := by simp; omega
  have hdl : (l.drop n).length = l.toArray.size - n := by simp
  have inv0 : HeadInv .any l.toArray n (Array.replicate l.toArray.size false) :=
    ⟨by simp, fun j oj _ hl => (by rw [getD_replicate_false] at hl; cases hl), fun t _ ht => getD_in (by simpa using ht) (getD_replicate_false _ _)⟩
  have H := rel_to_GR (n := n) (L := fun listed a F => Region.seqB .any l.toArray (l.toArray.size - n) n listed = true ∧ ∀ w', Le w w' → (∀ d, F d w') → wpList P l.toArray Q (l.drop n) a w') (Lq := fun a' F => ∀ w', Le w w' → (∀ d, F d w') → wpList P l.toArray Q (l.drop n) a' w')
    (fun w1 w2 h1 h2 => Le.trans h2 h1) hsel (HeadInv .any l.toArray n) (fun _ _ hi hj hjn => hi.set hj hjn)
    (fun listed i hi hin hun j hj => by
      rcases Nat.lt_or_ge j n with h2 | h2
      · exact h2
      · exact absurd hj (tail_waits hs hc hn hi _ i rfl hin hun j h2)) (fun listed a F hL => seqB_ready hL.1)
    (Region.lexHead .any l.toArray (l.toArray.size - n)) (fun f k listed h => by simp only [Region.lexHead, Bool.and_eq_true] at h; exact ⟨h.1.1, h.1.2, h.2⟩) (fun k listed a F hk h hq => ⟨by subst hk; simpa [Region.lexHead] using h, hq⟩)
    (l.take n) 0 (Array.replicate l.toArray.size false) a (fun _ _ => True) w.drew (fun j hj => by
      have hj' : j < n := by rw [htl] at hj; exact hj
      simp [hj']) (by simpa using htl) inv0 (by rw [htl]; exact hlex) (fun _ _ _ _ _ => trivial) (fun _ _ _ => trivial) (Below.refl _ _).drew (fun _ => trivial) h
  refine wp_region_any hm ?_
  have := GR.any (Q := Q) (g := l.toArray.size - n) (fun w1 w2 h1 h2 => Le.trans h2 h1) (fun listed a' F w' hL hb hF => by
    have := wpAny_of_seq (md := .any) (Q' := Q) (l.drop n) n listed a' w' (fun j => by simp [List.getElem?_drop]) (by rw [hdl]; exact hL.1) (hL.2 w' hb hF)
    rwa [hdl] at this) _ _ _ _ _ (fun _ _ _ _ _ => trivial) H (Below.refl w.heap.size w).drew (fun _ => trivial)
  rw [htl, show n + (l.toArray.size - n) = l.toArray.size by omega] at this
  exact this
/-! the steps of a walk -/
variable {T : Tell} {w : World} {k : Nat} {o : Oper} {l : List Oper} {a : Act} {F : Facts}
theorem rel_plain {L : World → Act → Prop} (v : Value) (hR : T.is k = false) (hF : ∀ w, F k w) (hg : Region.wanted o (yielded ops a.tmps) = true) (h : ∀ w', Le w w' → (execOp a.eval o).run P w' = .ok (.value v) w')
    (hl : RelAll P ops md (Le w) T.at_ T.is (fun a' F => ∀ w', Le w w' → (∀ d, F d w') → L w' a') (k + 1) l (a.put o.dst v) F) : RelAll P ops md (Le w) T.at_ T.is (fun a' F => ∀ w', Le w w' → (∀ d, F d w') → L w' a') k (o :: l) a F :=
  .inl ⟨hR, v, .inl ⟨hg, fun w hb _ => h w hb⟩, RelAll.weaker (fun a F F' hF h w' hb hd => h w' hb fun d => hF d w' (hd d)) _ _ _ _ _ (fun d w hd => by
    unfold setF at hd; split at hd
    · rename_i e; subst e; exact hF w
    · exact hd) hl⟩
theorem rel_off {L : World → Act → Prop} (hR : T.is k = false) (hF : ∀ w, F k w) (hg : Region.wanted o (yielded ops a.tmps) = false)
    (hl : RelAll P ops md (Le w) T.at_ T.is (fun a' F => ∀ w', Le w w' → (∀ d, F d w') → L w' a') (k + 1) l (a.put o.dst undef) F) : RelAll P ops md (Le w) T.at_ T.is (fun a' F => ∀ w', Le w w' → (∀ d, F d w') → L w' a') k (o :: l) a F :=
  .inl ⟨hR, undef, .inr ⟨hg, rfl⟩, RelAll.weaker (fun a F F' hF h w' hb hd => h w' hb fun d => hF d w' (hd d)) _ _ _ _ _ (fun d w hd => by
    unfold setF at hd; split at hd
    · rename_i e; subst e; exact hF w
    · exact hd) hl⟩
theorem rel_deps {L : World → Act → Prop} (v : Value) (hR : T.is k = false) (hg : Region.wanted o (yielded ops a.tmps) = true) (h : ∀ w', Le w w' → Deps md F o w' → (execOp a.eval o).run P w' = .ok (.value v) w')
    (hl : RelAll P ops md (Le w) T.at_ T.is (fun a' F => ∀ w', Le w w' → (∀ d, F d w') → L w' a') (k + 1) l (a.put o.dst v) (setF F k (Deps md F o))) : RelAll P ops md (Le w) T.at_ T.is (fun a' F => ∀ w', Le w w' → (∀ d, F d w') → L w' a') k (o :: l) a F :=
  .inl ⟨hR, v, .inl ⟨hg, h⟩, hl⟩
theorem rel_told {L : World → Act → Prop} (hR : T.is k = true) (hg : Region.wanted o (yielded ops a.tmps) = true) (h : ∀ w', Le w w' → Deps md F o w' → Ran P (T.at_ k) w' ((execOp a.eval o).run P w'))
    (hl : ∀ v w0, T.at_ k v w0 → RelAll P ops md (Le w) T.at_ T.is (fun a' F => ∀ w', Le w w' → (∀ d, F d w') → L w' a') (k + 1) l (a.put o.dst v) (setF F k (Known T.at_ md F k o v))) : RelAll P ops md (Le w) T.at_ T.is (fun a' F => ∀ w', Le w w' → (∀ d, F d w') → L w' a') k (o :: l) a F :=
  .inr ⟨hR, ⟨hg, h⟩, fun v ⟨w, _, hd⟩ => by
    have := hd k
    unfold setF at this; rw [if_pos rfl] at this
    obtain ⟨_, w0, _, h0⟩ := this
    exact hl v w0 h0⟩
theorem rel_nil {L : World → Act → Prop} (h : ∀ w', Le w w' → (∀ d, F d w') → L w' a) : RelAll P ops md (Le w) T.at_ T.is (fun a' F => ∀ w', Le w w' → (∀ d, F d w') → L w' a') k [] a F := h
end
def Tell.look (T : Tell) (i : Nat) : Option (Value → World → Prop) := (T.find? (·.1 == i)).map (·.2)
theorem Tell.out {T : Tell} {i : Nat} {φ : Value → World → Prop} {v : Value} {w : World} (h : T.at_ i v w) (hl : T.look i = some φ) : φ v w := by
  obtain ⟨x, hx, rfl⟩ := Option.map_eq_some_iff.1 hl
  exact h x (List.mem_of_find?_eq_some hx) (by simpa using List.find?_some hx)
theorem Tell.hit {T : Tell} {k : Nat} {φ : Value → World → Prop} {v : Value} {w : World} (hT : T.is k = false) (h : φ v w) : Tell.at_ ((k, φ) :: T) k v w := fun x hx he => by
  rcases List.mem_cons.1 hx with rfl | hx
  · exact h
  · have := List.any_eq_false.1 hT x hx
    simp [he] at this
theorem Tell.skip {T : Tell} {j k : Nat} {φ : Value → World → Prop} {v : Value} {w : World} (hj : (j == k) = false) (h : T.at_ k v w) : Tell.at_ ((j, φ) :: T) k v w := fun x hx he => by
  rcases List.mem_cons.1 hx with rfl | hx
  · simp only [beq_eq_false_iff_ne, ne_eq] at hj
    exact absurd he hj
  · exact h x hx he
theorem Known.out {T : Tell} {md : Region.Mode} {F : Facts} {i : Nat} {o : Oper} {v : Value} {w : World} {φ : Value → World → Prop} (h : Known T.at_ md F i o v w) (hl : T.look i = some φ) : ∃ w0, Le w0 w ∧ φ v w0 := by
  obtain ⟨_, w0, h1, h2⟩ := h
  exact ⟨w0, h1, Tell.out h2 hl⟩
end Go.Proofs.Ytkpnjnkfbhomgaa
