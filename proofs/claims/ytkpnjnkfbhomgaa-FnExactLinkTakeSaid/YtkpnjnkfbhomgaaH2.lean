/- A region whose order is drawn, as in H: some of its operations that only compute (no memory) may come up behind the first of the last ones (a late store). -/
import Derived.Test.YtkpnjnkfbhomgaaH
set_option linter.unusedVariables false
namespace Go.Proofs.Ytkpnjnkfbhomgaa
open Go.RowKit
section
variable {P : Program} {ops : Array Oper} {md : Region.Mode}
/-- what it comes to does not hang on the world -/
def WorldFree (P : Program) (o : Oper) : Prop := ∀ (ev : Operand → Value) (w w' : World) (v : Value), (execOp ev o).run P w = .ok (.value v) w → (execOp ev o).run P w' = .ok (.value v) w'
def floats (o : Oper) : Bool := match o.op with
  | .extract _ _ => true
  | .move _ => true
  | _ => false
theorem worldFree {o : Oper} (h : floats o = true) : WorldFree P o := by
  intro ev w w' v
  unfold floats at h
  split at h
  · rename_i x i e
    unfold execOp
    simp only [e]
    intro hr
    generalize ev x = u at *
    unfold Instr.extract at hr ⊢
    cases u <;> simp at hr ⊢
    split at hr <;> simp_all
  · rename_i x e
    unfold execOp
    simp only [e]
    intro hr
    simp at hr ⊢
    exact hr
  · cases h
end
section
variable (P : Program) (ops : Array Oper) (md : Region.Mode) (B : World → Prop) (Φ : Nat → Value → World → Prop) (Rl : Nat → Bool)
def GE (n g : Nat) (Q : Exit → Act → World → Prop) (L : Array Bool → Act → Facts → Prop) : Nat → Array Bool → Act → Facts → Prop
  | 0, listed, a, F => L listed a F
  | f + 1, listed, a, F => Region.ready md ops listed ≠ [] ∧ ∀ i ∈ Region.ready md ops listed, (i < n ∧ ∃ o, ops[i]? = some o ∧
      ((Rl i = false ∧ ∃ v, Plain P ops md B o v F a ∧ GE n g Q L f (listed.setIfInBounds i true) (a.put o.dst v) (setF F i (Deps md F o))) ∨
       (Rl i = true ∧ Told P ops md B Φ i o F a ∧ ∀ v, (∃ w, B w ∧ ∀ d, setF F i (Known Φ md F i o v) d w) → GE n g Q L f (listed.setIfInBounds i true) (a.put o.dst v) (setF F i (Known Φ md F i o v))))) ∨
    (i = n ∧ ∀ w, B w → (∀ d, F d w) → wpOp P ops Q n (wpAny P md ops Q (f + g) (listed.setIfInBounds n true)) a w)
variable {P md ops B Φ Rl}
theorem Plain.yields {o : Oper} {v : Value} {F : Facts} {a : Act} {w : World} (h : Plain P ops md B o v F a) (hf : WorldFree P o) (hb : B w) (hd : Deps md F o w) : Yields P ops o v a := by
  rcases h with ⟨h1, h2⟩ | h
  · exact .inl ⟨h1, fun w' => hf _ w w' v (h2 w hb hd)⟩
  · exact .inr h
theorem yields_plain {o : Oper} {v : Value} {F : Facts} {a : Act} (h : Yields P ops o v a) : Plain P ops md B o v F a := h.imp (fun ⟨h1, h2⟩ => ⟨h1, fun w _ _ => h2 w⟩) id
theorem yields_same {o : Oper} {v : Value} {a a' : Act} (h : Yields P ops o v a) (he : execOp a'.eval o = execOp a.eval o) (hw : Region.wanted o (yielded ops a'.tmps) = Region.wanted o (yielded ops a.tmps)) : Yields P ops o v a' := by
  unfold Yields at *; rw [he, hw]; exact h
theorem GE.any {n g : Nat} {L : Array Bool → Act → Facts → Prop} {Q : Exit → Act → World → Prop} (hB : ∀ w w', Le w w' → B w → B w')
    (hL : ∀ listed a F w, L listed a F → B w → (∀ d, F d w) → wpAny P md ops Q g listed a w) :
    ∀ (f : Nat) (listed : Array Bool) (a : Act) (F : Facts) (w : World), Mono F → GE P ops md B Φ Rl n g Q L f listed a F → B w → (∀ d, F d w) → wpAny P md ops Q (f + g) listed a w
  | 0, listed, a, F, w, _, h, hb, hF => by rw [Nat.zero_add]; exact hL _ _ _ _ h hb hF
  | f + 1, listed, a, F, w, hm, h, hb, hF => by
    rw [show f + 1 + g = (f + g) + 1 by omega]
    refine ⟨fun h0 => absurd h0 h.1, fun i hi => ?_⟩
    rcases h.2 i hi with ⟨_, o, ho, h1⟩ | ⟨rfl, h1⟩
    rotate_left
    · exact h1 w hb hF
    have hd : Deps md F o w := fun e _ _ => hF _
    unfold wpOp
    simp only [ho]
    rcases h1 with ⟨_, v, hp, hr⟩ | ⟨_, ht, hr⟩
    · have key : wpAny P md ops Q (f + g) (listed.setIfInBounds i true) (a.put o.dst v) w := GE.any hB hL f _ _ _ _ (hm.deps i o) hr hb fun d => by
        unfold setF; split
        · exact hd
        · exact hF d
      rcases hp with ⟨h2, h3⟩ | ⟨h2, rfl⟩
      · rw [if_pos h2]
        refine .inl ?_
        unfold Oper.wp
        rw [h3 w hb hd]
        exact key
      · rw [if_neg (by simp [h2])]; exact key
    · have key : ∀ v w', Le w w' → Φ i v w' → wpAny P md ops Q (f + g) (listed.setIfInBounds i true) (a.put o.dst v) w' := fun v w' hl hφ => by
        have hk : Known Φ md F i o v w' := ⟨hd.mono hm hl, w', Le.refl _, hφ⟩
        have hall : ∀ d, setF F i (Known Φ md F i o v) d w' := fun d => by
          unfold setF; split
          · exact hk
          · exact hm _ _ _ hl (hF d)
        exact GE.any hB hL f _ _ _ _ (hm.known Φ i o v) (hr v ⟨w', hB _ _ hl hb, hall⟩) (hB _ _ hl hb) hall
      rw [if_pos ht.1]
      refine .inl ?_
      have h3 := ht.2 w hb hd
      unfold Oper.wp
      generalize (execOp a.eval o).run P w = r at *
      match r, h3 with
      | .ok (.value u) w', h3 => exact key _ _ h3.1 h3.2
      | .ok (.enter f' args) w', h3 => exact Calls.mono h3 fun e w'' ⟨v, he, hl, hφ⟩ => by subst he; exact key _ _ hl hφ
theorem GE.first {n g i : Nat} {Q : Exit → Act → World → Prop} {oi : Oper} {L : Array Bool → Act → Facts → Prop} (hBm : ∀ w w', Le w w' → B w → B w') (hi : ops[i]? = some oi) (hsel : ∀ (j : Nat) (o : Oper) cs b, ops[j]? = some o → o.op ≠ .select cs b)
    (I : Array Bool → Prop) (hI : ∀ listed j, I listed → j ∈ Region.ready md ops listed → j < n → I (listed.setIfInBounds j true))
    (hwait : ∀ listed, I listed → listed.getD i true = false → ∀ j ∈ Region.ready md ops listed, j < n) (hin : i < n)
    (hdone : ∀ listed a F, L listed a F → ∀ j ∈ Region.ready md ops listed, n ≤ j) :
    ∀ (f : Nat) (listed : Array Bool) (a : Act) (F : Facts) (w : World), Mono F → (∀ d, listed.getD d true = false → ∀ w, F d w) → B w → (∀ d, F d w) → I listed → (∀ j oj, ops[j]? = some oj → j ≠ i → listed.getD j true = false → (∀ e ∈ oj.after, Region.binds md e = true → e.on ≠ i) → oi.apart ops oj = true) →
      i ∈ Region.ready md ops listed → Part (P := P) (ops := ops) (md := md) (B := B) (Φ := Φ) (Rl := Rl) n i oi F a (fun v F' => GE P ops md B Φ Rl n g Q L f (listed.setIfInBounds i true) (a.put oi.dst v) F') → GE P ops md B Φ Rl n g Q L (f + 1) listed a F := by
  intro f
  induction f with
  | zero =>
    intro listed a F w hm hU hb hF hinv _ hr H
    refine ⟨fun h => (by rw [h] at hr; cases hr), fun j hj => ?_⟩
    have hjn := hwait listed hinv (mem_ready.1 hr).1 j hj
    refine .inl ⟨hjn, ?_⟩
    by_cases hji : j = i
    · subst hji; exact ⟨oi, hi, H⟩
    · exfalso
      have : ∃ a' F', L (listed.setIfInBounds i true) a' F' := by
        rcases H with ⟨_, v, _, h⟩ | ⟨_, ht, h⟩
        · exact ⟨_, _, h⟩
        · obtain ⟨v, w', hl, hφ⟩ := (ht.2 w hb fun e _ _ => hF _).some
          exact ⟨_, _, h v ⟨w', hBm _ _ hl hb, fun d => by
            unfold setF; split
            · exact ⟨fun e _ _ => hm _ _ _ hl (hF _), w', Le.refl _, hφ⟩
            · exact hm _ _ _ hl (hF d)⟩⟩
      obtain ⟨a', F', h⟩ := this
      have := hdone _ _ _ h j (ready_mono hj hji)
      omega
  | succ f ih =>
    intro listed a F w hm hU hb hF hinv hfree hr H
    have hun := (mem_ready.1 hr).1
    refine ⟨fun h => (by rw [h] at hr; cases hr), fun j hj => ?_⟩
    have hjn := hwait listed hinv hun j hj
    refine .inl ⟨hjn, ?_⟩
    by_cases hji : j = i
    · subst hji; exact ⟨oi, hi, H⟩
    · obtain ⟨_, oj, hoj, hall⟩ := mem_ready.1 hj
      have hnot : ∀ e ∈ oj.after, Region.binds md e = true → e.on ≠ i := fun e he hbd heq => by
        have h1 := hall e he hbd
        rw [heq, getD_both hun] at h1
        cases h1
      obtain ⟨oi', hoi', halli⟩ := (mem_ready.1 hr).2
      obtain rfl : oi' = oi := Option.some.inj (hoi'.symm.trans hi)
      have hnoti : ∀ e ∈ oi'.after, Region.binds md e = true → e.on ≠ j := fun e he hbd heq => by
        have h1 := halli e he hbd
        rw [heq, getD_both (mem_ready.1 hj).1] at h1
        cases h1
      obtain ⟨p1, p2, p3⟩ := Oper.apart_spec (hfree j oj hoj hji (mem_ready.1 hj).1 hnot)
      have ej : ∀ v, execOp (a.put oi'.dst v).eval oj = execOp a.eval oj := fun v => execOp_put oj (fun cs b => hsel j oj cs b hoj) a oi'.dst v p1
      have wj : ∀ v, Region.wanted oj (yielded ops (a.put oi'.dst v).tmps) = Region.wanted oj (yielded ops a.tmps) := fun v => wanted_put oj a oi'.dst v p1
      have ei : ∀ v, execOp (a.put oj.dst v).eval oi' = execOp a.eval oi' := fun v => execOp_put oi' (fun cs b => hsel i oi' cs b hi) a oj.dst v p3
      have wi : ∀ v, Region.wanted oi' (yielded ops (a.put oj.dst v).tmps) = Region.wanted oi' (yielded ops a.tmps) := fun v => wanted_put oi' a oj.dst v p3
      have hdj : Deps md F oj w := fun e _ _ => hF _
      -- j's part at a state in which i has come up goes over to the state without
      have back : ∀ (vi : Value) (p : World → Prop), GE P ops md B Φ Rl n g Q L (f + 1) (listed.setIfInBounds i true) (a.put oi'.dst vi) (setF F i p) →
          (Rl j = false ∧ ∃ v, Plain P ops md B oj v F a ∧ GE P ops md B Φ Rl n g Q L f ((listed.setIfInBounds i true).setIfInBounds j true) ((a.put oi'.dst vi).put oj.dst v) (setF (setF F i p) j (Deps md F oj))) ∨
          (Rl j = true ∧ Told P ops md B Φ j oj F a ∧ ∀ v, (∃ w, B w ∧ ∀ d, setF (setF F i p) j (Known Φ md F j oj v) d w) → GE P ops md B Φ Rl n g Q L f ((listed.setIfInBounds i true).setIfInBounds j true) ((a.put oi'.dst vi).put oj.dst v) (setF (setF F i p) j (Known Φ md F j oj v))) := by
        intro vi p h
        have hD : Deps md (setF F i p) oj = Deps md F oj := funext fun w => propext (deps_set hnot w)
        have hK : ∀ v, Known Φ md (setF F i p) j oj v = Known Φ md F j oj v := fun v => by unfold Known; rw [hD]
        have h9 := (h.2 j (ready_mono hj hji)).resolve_right (fun h8 => by omega)
        obtain ⟨_, oj', hoj', h2⟩ := h9
        obtain rfl : oj' = oj := Option.some.inj (hoj'.symm.trans hoj)
        rcases h2 with ⟨r, v, h3, h4⟩ | ⟨r, h3, h4⟩
        · exact .inl ⟨r, v, h3.same (ej vi).symm (wj vi).symm (fun w h => by rwa [hD]), by rwa [hD] at h4⟩
        · refine .inr ⟨r, h3.same (ej vi).symm (wj vi).symm (fun w h => by rwa [hD]), fun v hv => ?_⟩
          have := h4 v (by rwa [hK])
          rwa [hK] at this
      have hDi : ∀ p, Deps md (setF F j p) oi' = Deps md F oi' := fun p => funext fun w => propext (deps_set hnoti w)
      have hKi : ∀ p v, Known Φ md (setF F j p) i oi' v = Known Φ md F i oi' v := fun p v => by unfold Known; rw [hDi]
      have freej : ∀ k ok, ops[k]? = some ok → k ≠ i → (listed.setIfInBounds j true).getD k true = false → (∀ e ∈ ok.after, Region.binds md e = true → e.on ≠ i) → oi'.apart ops ok = true := fun k ok hk hki hunk hno => by
        refine hfree k ok hk hki ?_ hno
        by_cases hjk : j = k
        · subst hjk; exact (mem_ready.1 hj).1
        · rw [getD_set_ne true hjk] at hunk; exact hunk
      refine ⟨oj, hoj, ?_⟩
      -- what i asks, behind j
      have go : ∀ (vj : Value) (p : World → Prop) (w' : World), Mono (setF F j p) → B w' → (∀ d, setF F j p d w') →
          ((Rl i = false ∧ ∃ v, Plain P ops md B oi' v F a ∧ GE P ops md B Φ Rl n g Q L f ((listed.setIfInBounds i true).setIfInBounds j true) ((a.put oi'.dst v).put oj.dst vj) (setF (setF F i (Deps md F oi')) j p)) ∨
            (Rl i = true ∧ Told P ops md B Φ i oi' F a ∧ ∀ v, (∃ w, B w ∧ ∀ d, setF (setF F j p) i (Known Φ md F i oi' v) d w) → GE P ops md B Φ Rl n g Q L f ((listed.setIfInBounds i true).setIfInBounds j true) ((a.put oi'.dst v).put oj.dst vj) (setF (setF F i (Known Φ md F i oi' v)) j p))) →
          GE P ops md B Φ Rl n g Q L (f + 1) (listed.setIfInBounds j true) (a.put oj.dst vj) (setF F j p) := by
        intro vj p w' hm' hb' hF' h
        refine ih _ _ _ w' hm' (fun d hd w => ?_) hb' hF' (hI _ _ hinv hj hjn) freej (ready_mono hr (Ne.symm hji)) ?_
        · by_cases hjd : j = d
          · subst hjd
            exfalso
            rcases Nat.lt_or_ge j listed.size with h' | h'
            · simp [h'] at hd
            · have := (mem_ready.1 hj).1
              simp [Array.getElem?_eq_none h'] at this
          · rw [getD_set_ne true hjd] at hd
            unfold setF; rw [if_neg (Ne.symm hjd)]; exact hU d hd w
        rcases h with ⟨r, vi, h3, h4⟩ | ⟨r, h3, h4⟩
        · refine .inl ⟨r, vi, h3.same (ei vj) (wi vj) (fun w h => by rwa [hDi] at h), ?_⟩
          show GE P ops md B Φ Rl n g Q L f _ _ _
          rw [hDi, Array.setIfInBounds_comm _ _ hji, ← Act.put_comm a vi vj p2, ← setF_comm _ _ (Ne.symm hji)]
          exact h4
        · refine .inr ⟨r, h3.same (ei vj) (wi vj) (fun w h => by rwa [hDi] at h), fun vi hvi => ?_⟩
          rw [hKi] at hvi ⊢
          show GE P ops md B Φ Rl n g Q L f _ _ _
          rw [Array.setIfInBounds_comm _ _ hji, ← Act.put_comm a vi vj p2, ← setF_comm _ _ (Ne.symm hji)]
          exact h4 vi hvi
      have hFj : ∀ w', Le w w' → ∀ p : World → Prop, p w' → ∀ d, setF F j p d w' := fun w' hl p hp d => by
        unfold setF; split
        · exact hp
        · exact hm _ _ _ hl (hF d)
      have inhab : Rl i = true → Told P ops md B Φ i oi' F a → ∃ v, ∃ w', B w' ∧ ∀ d, setF F i (Known Φ md F i oi' v) d w' := fun _ ht => by
        obtain ⟨v, w', hl, hφ⟩ := (ht.2 w hb fun e _ _ => hF _).some
        refine ⟨v, w', hBm _ _ hl hb, fun d => ?_⟩
        unfold setF; split
        · exact ⟨fun e _ _ => hm _ _ _ hl (hF _), w', Le.refl _, hφ⟩
        · exact hm _ _ _ hl (hF d)
      have forget : ∀ p q w', (∀ d, setF (setF F j p) i q d w') → ∀ d, setF F i q d w' := fun p q w' h d => by
        have h1 := h d
        unfold setF at h1 ⊢
        by_cases hd : d = i
        · rw [if_pos hd] at h1 ⊢; exact h1
        · rw [if_neg hd] at h1 ⊢
          by_cases hd2 : d = j
          · subst hd2; exact hU _ (mem_ready.1 hj).1 w'
          · rw [if_neg hd2] at h1; exact h1
      cases hRj : Rl j with
      | false =>
        refine .inl ⟨rfl, ?_⟩
        rcases H with ⟨r, vi, h3, h4⟩ | ⟨r, h3, h4⟩
        · rcases back vi _ h4 with ⟨_, vj, h5, h6⟩ | ⟨r5, _⟩
          · exact ⟨vj, h5, go vj _ w (hm.deps j oj) hb (hFj w (Le.refl _) _ hdj) (.inl ⟨r, vi, h3, h6⟩)⟩
          · rw [hRj] at r5; cases r5
        · obtain ⟨v0, hv0⟩ := inhab r h3
          rcases back v0 _ (h4 v0 hv0) with ⟨_, vj, h5, h6⟩ | ⟨r5, _⟩
          · refine ⟨vj, h5, go vj _ w (hm.deps j oj) hb (hFj w (Le.refl _) _ hdj) (.inr ⟨r, h3, fun vi hvi => ?_⟩)⟩
            obtain ⟨w2, hB2, hF2⟩ := hvi
            rcases back vi _ (h4 vi ⟨w2, hB2, forget _ _ _ hF2⟩) with ⟨_, vj', h7, h8⟩ | ⟨r5, _⟩
            · obtain rfl := h5.one h7 hb hdj
              exact h8
            · rw [hRj] at r5; cases r5
          · rw [hRj] at r5; cases r5
      | true =>
        have hT : Told P ops md B Φ j oj F a := by
          rcases H with ⟨r, vi, h3, h4⟩ | ⟨r, h3, h4⟩
          · rcases back vi _ h4 with ⟨r5, _⟩ | ⟨_, h5, _⟩
            · rw [hRj] at r5; cases r5
            · exact h5
          · obtain ⟨v0, hv0⟩ := inhab r h3
            rcases back v0 _ (h4 v0 hv0) with ⟨r5, _⟩ | ⟨_, h5, _⟩
            · rw [hRj] at r5; cases r5
            · exact h5
        refine .inr ⟨rfl, hT, fun vj hvj => ?_⟩
        obtain ⟨w', hb', hF'⟩ := hvj
        refine go vj _ w' (hm.known Φ j oj vj) hb' hF' ?_
        rcases H with ⟨r, vi, h3, h4⟩ | ⟨r, h3, h4⟩
        · rcases back vi _ h4 with ⟨r5, _⟩ | ⟨_, _, h6⟩
          · rw [hRj] at r5; cases r5
          · refine .inl ⟨r, vi, h3, h6 vj ⟨w', hb', fun d => ?_⟩⟩
            have h1 := hF' d
            unfold setF at h1 ⊢
            by_cases hd : d = j
            · rw [if_pos hd] at h1 ⊢; exact h1
            · rw [if_neg hd] at h1 ⊢
              by_cases hd2 : d = i
              · rw [if_pos hd2]
                intro e he hbd
                have h2 := hF' e.on
                unfold setF at h2
                rwa [if_neg (hnoti e he hbd)] at h2
              · rw [if_neg hd2]; exact h1
        · refine .inr ⟨r, h3, fun vi hvi => ?_⟩
          obtain ⟨w2, hB2, hF2⟩ := hvi
          rcases back vi _ (h4 vi ⟨w2, hB2, forget _ _ _ hF2⟩) with ⟨r5, _⟩ | ⟨_, _, h6⟩
          · rw [hRj] at r5; cases r5
          · refine h6 vj ⟨w2, hB2, fun d => ?_⟩
            rw [setF_comm _ _ (Ne.symm hji)]
            exact hF2 d
theorem GE.float {n g i : Nat} {oi : Oper} {v : Value} {Q : Exit → Act → World → Prop} {L : Array Bool → Act → Facts → Prop} (hBm : ∀ w w', Le w w' → B w → B w')
    (hL : ∀ listed a F w, L listed a F → B w → (∀ d, F d w) → wpAny P md ops Q g listed a w) (hi : ops[i]? = some oi) (hsel : ∀ (j : Nat) (o : Oper) cs b, ops[j]? = some o → o.op ≠ .select cs b)
    (hQ : ∀ c a w, Q (.panic c) (a.put oi.dst v) w → Q (.panic c) a w) (I : Array Bool → Prop) (hI : ∀ listed j, I listed → j ∈ Region.ready md ops listed → j < n → I (listed.setIfInBounds j true)) (hin : i < n)
    (hle : ∀ listed, I listed → ∀ j ∈ Region.ready md ops listed, j ≤ n) (hdone : ∀ listed a F, L listed a F → ∀ j ∈ Region.ready md ops listed, n ≤ j) (hRi : Rl i = false) :
    ∀ (f : Nat) (listed : Array Bool) (a : Act) (F : Facts) (w : World), Mono F → (∀ d, listed.getD d true = false → ∀ w, F d w) → B w → (∀ d, F d w) → I listed → (∀ j oj, ops[j]? = some oj → j ≠ i → listed.getD j true = false → (∀ e ∈ oj.after, Region.binds md e = true → e.on ≠ i) → oi.apart ops oj = true) →
      i ∈ Region.ready md ops listed → Yields P ops oi v a → GE P ops md B Φ Rl n g Q L f (listed.setIfInBounds i true) (a.put oi.dst v) (setF F i (Deps md F oi)) → GE P ops md B Φ Rl n g Q L (f + 1) listed a F := by
  intro f
  induction f with
  | zero =>
    intro listed a F w hm hU hb hF hinv hfree hr hy H
    refine ⟨fun h => (by rw [h] at hr; cases hr), fun j hj => ?_⟩
    by_cases hji : j = i
    · subst hji; exact .inl ⟨hin, oi, hi, .inl ⟨hRi, v, (yields_plain hy), H⟩⟩
    · by_cases hjn : j < n
      · exfalso
        have := hdone _ _ _ H j (ready_mono hj hji)
        omega
      · obtain rfl : j = n := by have := hle listed hinv j hj; omega
        refine .inr ⟨rfl, fun w' hb' hF' => ?_⟩
        have h1 := GE.any (Q := Q) hBm hL 0 _ _ _ w' (hm.deps i oi) H hb' (set_all hF' (fun e _ _ => hF' _))
        exact (wpAny_first hi hsel hQ _ listed a w' hfree hr hy h1).2 j hj
  | succ f ih =>
    intro listed a F w hm hU hb hF hinv hfree hr hy H
    have hun := (mem_ready.1 hr).1
    refine ⟨fun h => (by rw [h] at hr; cases hr), fun j hj => ?_⟩
    by_cases hji : j = i
    · subst hji; exact .inl ⟨hin, oi, hi, .inl ⟨hRi, v, (yields_plain hy), H⟩⟩
    · by_cases hjn : j < n
      · rcases H.2 j (ready_mono hj hji) with ⟨_, oj, hoj, h2⟩ | ⟨h8, _⟩
        rotate_left
        · omega
        refine .inl ⟨hjn, oj, hoj, ?_⟩
        obtain ⟨_, oj', hoj', hall⟩ := mem_ready.1 hj
        obtain rfl : oj' = oj := Option.some.inj (hoj'.symm.trans hoj)
        have hnot : ∀ e ∈ oj'.after, Region.binds md e = true → e.on ≠ i := fun e he hbd heq => by
          have h1 := hall e he hbd
          rw [heq, getD_both hun] at h1
          cases h1
        obtain ⟨oi', hoi', halli⟩ := (mem_ready.1 hr).2
        obtain rfl : oi' = oi := Option.some.inj (hoi'.symm.trans hi)
        have hnoti : ∀ e ∈ oi'.after, Region.binds md e = true → e.on ≠ j := fun e he hbd heq => by
          have h1 := halli e he hbd
          rw [heq, getD_both (mem_ready.1 hj).1] at h1
          cases h1
        obtain ⟨p1, p2, p3⟩ := Oper.apart_spec (hfree j oj' hoj hji (mem_ready.1 hj).1 hnot)
        have ej : execOp (a.put oi'.dst v).eval oj' = execOp a.eval oj' := execOp_put oj' (fun cs b => hsel j oj' cs b hoj) a oi'.dst v p1
        have wj : Region.wanted oj' (yielded ops (a.put oi'.dst v).tmps) = Region.wanted oj' (yielded ops a.tmps) := wanted_put oj' a oi'.dst v p1
        have ei : ∀ u, execOp (a.put oj'.dst u).eval oi' = execOp a.eval oi' := fun u => execOp_put oi' (fun cs b => hsel i oi' cs b hi) a oj'.dst u p3
        have wi : ∀ u, Region.wanted oi' (yielded ops (a.put oj'.dst u).tmps) = Region.wanted oi' (yielded ops a.tmps) := fun u => wanted_put oi' a oj'.dst u p3
        have hD : Deps md (setF F i (Deps md F oi')) oj' = Deps md F oj' := funext fun w => propext (deps_set hnot w)
        have hK : ∀ u, Known Φ md (setF F i (Deps md F oi')) j oj' u = Known Φ md F j oj' u := fun u => by unfold Known; rw [hD]
        have hDi : ∀ p, Deps md (setF F j p) oi' = Deps md F oi' := fun p => funext fun w => propext (deps_set hnoti w)
        have freej : ∀ k ok, ops[k]? = some ok → k ≠ i → (listed.setIfInBounds j true).getD k true = false → (∀ e ∈ ok.after, Region.binds md e = true → e.on ≠ i) → oi'.apart ops ok = true := fun k ok hk hki hunk hno => by
          refine hfree k ok hk hki ?_ hno
          by_cases hjk : j = k
          · subst hjk; exact (mem_ready.1 hj).1
          · rw [getD_set_ne true hjk] at hunk; exact hunk
        have go : ∀ (vj : Value) (p : World → Prop) (w' : World), Mono (setF F j p) → B w' → (∀ d, setF F j p d w') →
            GE P ops md B Φ Rl n g Q L f ((listed.setIfInBounds i true).setIfInBounds j true) ((a.put oi'.dst v).put oj'.dst vj) (setF (setF F i (Deps md F oi')) j p) →
            GE P ops md B Φ Rl n g Q L (f + 1) (listed.setIfInBounds j true) (a.put oj'.dst vj) (setF F j p) := by
          intro vj p w' hm' hb' hF' h
          refine ih _ _ _ w' hm' (fun d hd w => ?_) hb' hF' (hI _ _ hinv hj hjn) freej (ready_mono hr (Ne.symm hji)) (yields_same hy (ei vj) (wi vj)) ?_
          · by_cases hjd : j = d
            · subst hjd
              exfalso
              rcases Nat.lt_or_ge j listed.size with h' | h'
              · simp [h'] at hd
              · have := (mem_ready.1 hj).1
                simp [Array.getElem?_eq_none h'] at this
            · rw [getD_set_ne true hjd] at hd
              unfold setF; rw [if_neg (Ne.symm hjd)]; exact hU d hd w
          · rw [hDi, Array.setIfInBounds_comm _ _ hji, ← Act.put_comm a v vj p2, ← setF_comm _ _ (Ne.symm hji)]
            exact h
        rcases h2 with ⟨r, vj, h3, h4⟩ | ⟨r, h3, h4⟩
        · rw [hD] at h4
          exact .inl ⟨r, vj, h3.same ej.symm wj.symm (fun w h => by rwa [hD]), go vj _ w (hm.deps j oj') hb (set_all hF (fun e _ _ => hF _)) h4⟩
        · refine .inr ⟨r, h3.same ej.symm wj.symm (fun w h => by rwa [hD]), fun vj hvj => ?_⟩
          have h5 := h4 vj
          rw [hK] at h5
          obtain ⟨w', hb', hF'⟩ := hvj
          refine go vj _ w' (hm.known Φ j oj' vj) hb' hF' (h5 ⟨w', hb', fun d => ?_⟩)
          have h1 := hF' d
          unfold setF at h1 ⊢
          by_cases hd : d = j
          · rw [if_pos hd] at h1 ⊢; exact h1
          · rw [if_neg hd] at h1 ⊢
            by_cases hd2 : d = i
            · rw [if_pos hd2]
              intro e he hbd
              have h2 := hF' e.on
              unfold setF at h2
              rwa [if_neg (hnoti e he hbd)] at h2
            · rw [if_neg hd2]; exact h1
      · obtain rfl : j = n := by have := hle listed hinv j hj; omega
        refine .inr ⟨rfl, fun w' hb' hF' => ?_⟩
        have h1 := GE.any (Q := Q) hBm hL (f + 1) _ _ _ w' (hm.deps i oi) H hb' (set_all hF' (fun e _ _ => hF' _))
        exact (wpAny_first hi hsel hQ _ listed a w' hfree hr hy h1).2 j hj
theorem rel_to_GE {n g : Nat} {Q : Exit → Act → World → Prop} {L : Array Bool → Act → Facts → Prop} {Lq : Act → Facts → Prop} (hBm : ∀ w w', Le w w' → B w → B w') (hsel : Region.noSelect ops = true)
    (I : Array Bool → Prop) (hI : ∀ listed j, I listed → j ∈ Region.ready md ops listed → j < n → I (listed.setIfInBounds j true))
    (Fl : Nat → Bool) (hFl : ∀ k o, Fl k = true → ops[k]? = some o → WorldFree P o) (hFR : ∀ k, Fl k = true → Rl k = false) (hQ : ∀ k oi (v : Value) c a w, Fl k = true → ops[k]? = some oi → Q (.panic c) (a.put oi.dst v) w → Q (.panic c) a w)
    (hL : ∀ listed a F w, L listed a F → B w → (∀ d, F d w) → wpAny P md ops Q g listed a w)
    (hle : ∀ listed, I listed → ∀ j ∈ Region.ready md ops listed, j ≤ n) (hwait : ∀ listed i, I listed → i < n → Fl i = false → listed.getD i true = false → ∀ j ∈ Region.ready md ops listed, j < n) (hdone : ∀ listed a F, L listed a F → ∀ j ∈ Region.ready md ops listed, n ≤ j)
    (chk : Nat → Nat → Array Bool → Bool) (hchk : ∀ f k listed, chk (f + 1) k listed = true → (Region.ready md ops listed).contains k = true ∧ Region.free md ops listed k = true ∧ chk f (k + 1) (listed.setIfInBounds k true) = true)
    (hend : ∀ k listed a F, k = n → chk 0 k listed = true → Lq a F → L listed a F) :
    ∀ (l : List Oper) (k : Nat) (listed : Array Bool) (a : Act) (F : Facts) (w : World), (∀ j, j < l.length → l[j]? = ops[k + j]?) → k + l.length = n → I listed → chk l.length k listed = true → Mono F → (∀ d, listed.getD d true = false → ∀ w, F d w) → B w → (∀ d, F d w) →
    RelAll P ops md B Φ Rl Lq k l a F → GE P ops md B Φ Rl n g Q L l.length listed a F
  | [], k, listed, a, F, w, _, hk, _, hB, _, _, _, _, h => hend k listed a F (by simpa using hk) (by simpa using hB) h
  | o :: l, k, listed, a, F, w, hl, hk, inv, hB, hm, hU, hb, hF, h => by
    have h0 : ops[k]? = some o := by simpa using (hl 0 (by simp)).symm
    obtain ⟨hr, hf, hB'⟩ := hchk l.length k listed (by simpa using hB)
    have hkn : k < n := by simp only [List.length_cons] at hk; omega
    have hr' : k ∈ Region.ready md ops listed := by simpa using hr
    have hl' : ∀ j, j < l.length → l[j]? = ops[k + 1 + j]? := fun j hj => by have := hl (j + 1) (by simp; omega); simpa [Nat.add_assoc, Nat.add_comm 1 j] using this
    have hk' : k + 1 + l.length = n := by simp only [List.length_cons] at hk; omega
    have hdw : Deps md F o w := fun e _ _ => hF _
    cases hfl : Fl k with
    | true =>
      have hRk := hFR k hfl
      rcases h with ⟨r, v, h1, h2⟩ | ⟨r, _⟩
      · exact GE.float hBm hL h0 (Region.noSelect_spec hsel) (fun c a w => hQ k o v c a w hfl h0) I hI hkn hle hdone hRk l.length listed a F w hm hU hb hF inv (Region.free_spec h0 hf) hr' (h1.yields (hFl k o hfl h0) hb hdw)
          (rel_to_GE hBm hsel I hI Fl hFl hFR hQ hL hle hwait hdone chk hchk hend l (k + 1) _ _ _ w hl' hk' (hI _ _ inv hr' hkn) hB' (hm.deps k o) (fun d hd w => set_true (mem_ready.1 hr').1 hU hd w) hb (set_all hF hdw) h2)
      · rw [hRk] at r; cases r
    | false =>
    refine GE.first hBm h0 (Region.noSelect_spec hsel) I hI (fun listed hi hun j hj => hwait listed k hi hkn hfl hun j hj) hkn hdone l.length listed a F w hm hU hb hF inv (Region.free_spec h0 hf) hr' ?_
    rcases h with ⟨r, v, h1, h2⟩ | ⟨r, h1, h2⟩
    · exact .inl ⟨r, v, h1, rel_to_GE hBm hsel I hI Fl hFl hFR hQ hL hle hwait hdone chk hchk hend l (k + 1) _ _ _ w hl' hk' (hI _ _ inv hr' hkn) hB' (hm.deps k o) (fun d hd w => set_true (mem_ready.1 hr').1 hU hd w) hb (set_all hF hdw) h2⟩
    · refine .inr ⟨r, h1, fun v hv => ?_⟩
      obtain ⟨w', hb', hF'⟩ := id hv
      exact rel_to_GE hBm hsel I hI Fl hFl hFR hQ hL hle hwait hdone chk hchk hend l (k + 1) _ _ _ w' hl' hk' (hI _ _ inv hr' hkn) hB' (hm.known Φ k o v) (fun d hd w => set_true (mem_ready.1 hr').1 hU hd w) hb' hF' (h2 v hv)
/-- each of the first n operations but the floats is waited for by a later one, up to n -/
def sinkF (md : Region.Mode) (ops : Array Oper) (n : Nat) (Fs : List Nat) : Bool :=
  (List.range n).all fun i => Fs.contains i || (List.range (n + 1)).any fun j => decide (i < j) && (!Fs.contains j && Region.waitsFor md ops j i)
theorem tail_waitsF {n : Nat} {Fs : List Nat} {listed : Array Bool} (hs : sinkF md ops n Fs = true) (hnF : Fs.contains n = false) (hc : Region.chainB md ops n = true) (hn : n < ops.size) (inv : HeadInv md ops n listed) :
    ∀ (d i : Nat), n - i = d → i < n → Fs.contains i = false → listed.getD i true = false → ∀ t, n ≤ t → t ∉ Region.ready md ops listed := by
  intro d
  induction d using Nat.strongRecOn with
  | _ d ih =>
    intro i hd hi hiF hun t ht hr
    obtain ⟨_, ot, hot, hall⟩ := mem_ready.1 hr
    have htlt : t < ops.size := (Array.getElem?_eq_some_iff.1 hot).1
    by_cases htn : t = n
    · subst htn
      have h1 := List.all_eq_true.1 hs i (List.mem_range.2 hi)
      rw [hiF, Bool.false_or] at h1
      obtain ⟨j, hj, hj2⟩ := List.any_eq_true.1 h1
      simp only [Bool.and_eq_true, decide_eq_true_eq, Bool.not_eq_true'] at hj2
      obtain ⟨hj3, hj4, hj5⟩ := hj2
      obtain ⟨oj, hoj, e, he, hb, hon⟩ := Region.waitsFor_spec hj5
      have hjle : j ≤ t := by have := List.mem_range.1 hj; omega
      by_cases hjt : j = t
      · subst hjt
        have : oj = ot := Option.some.inj (hoj.symm.trans hot)
        subst this
        have h2 := hall e he hb
        rw [hon, getD_both hun] at h2
        cases h2
      · cases hl : listed.getD j false with
        | true =>
          have h2 := inv.closed j oj hoj hl e he hb
          rw [hon, getD_both hun] at h2
          cases h2
        | false =>
          have hjs : j < listed.size := by rw [inv.size]; omega
          exact ih (t - j) (by omega) j rfl (by omega) hj4 (getD_in hjs hl) t (Nat.le_refl _) hr
    · have h1 := List.all_eq_true.1 hc t (List.mem_range.2 htlt)
      simp only [Bool.or_eq_true, decide_eq_true_eq] at h1
      rcases h1 with h1 | h1
      · omega
      · obtain ⟨o', ho', e, he, hb, hon⟩ := Region.waitsFor_spec h1
        have : o' = ot := Option.some.inj (ho'.symm.trans hot)
        subst this
        have h2 := hall e he hb
        rw [hon, getD_both (inv.tail (t - 1) (by omega) (by omega))] at h2
        cases h2
theorem head_le {n : Nat} {listed : Array Bool} (hc : Region.chainB md ops n = true) (inv : HeadInv md ops n listed) : ∀ j ∈ Region.ready md ops listed, j ≤ n := fun t hr => by
  obtain ⟨_, ot, hot, hall⟩ := mem_ready.1 hr
  have htlt : t < ops.size := (Array.getElem?_eq_some_iff.1 hot).1
  rcases Nat.lt_or_ge n t with hlt | hge
  · exfalso
    have h1 := List.all_eq_true.1 hc t (List.mem_range.2 htlt)
    simp only [Bool.or_eq_true, decide_eq_true_eq] at h1
    rcases h1 with h1 | h1
    · omega
    · obtain ⟨o', ho', e, he, hb, hon⟩ := Region.waitsFor_spec h1
      have : o' = ot := Option.some.inj (ho'.symm.trans hot)
      subst this
      have h2 := hall e he hb
      rw [hon, getD_both (inv.tail (t - 1) (by omega) (by omega))] at h2
      cases h2
  · exact hge
def lexTailF (md : Region.Mode) (ops : Array Oper) (n : Nat) (Fs : List Nat) (T : Nat → Bool) : Bool :=
  Region.noSelect ops && decide (n < ops.size) && sinkF md ops n Fs && !Fs.contains n && Region.chainB md ops n && Region.lexHead md ops (ops.size - n) n 0 (Array.replicate ops.size false) &&
    Fs.all (fun k => !T k && match ops[k]? with | some o => floats o | none => true)
/-- A drawn region, its last operations (from number n on) one behind the other; the operations Fs, which only compute, may come up behind the first of these. -/
theorem rel_tailf_b {id : Nat} {Q : Exit → Act → World → Prop} {a : Act} {w : World} {l : List Oper} (n : Nat) (Fs : List Nat) (T : Tell) (hm : P.follows .mixedOrders = true) (hB : lexTailF .any l.toArray n Fs T.is = true)
    (hQ : ∀ d (v : Value) c a w, Q (.panic c) (a.put d v) w → Q (.panic c) a w)
    (h : RelAll P l.toArray .any (Le w) T.at_ T.is (fun a' F => ∀ w', Le w w' → (∀ d, F d w') → wpList P l.toArray Q (l.drop n) a' w') 0 (l.take n) a (fun _ _ => True)) : (Code.region id l.toArray true).wp P Q a w := by
  simp only [lexTailF, Bool.and_eq_true, decide_eq_true_eq, Bool.not_eq_true'] at hB
  obtain ⟨⟨⟨⟨⟨⟨hsel, hn⟩, hs⟩, hnF⟩, hc⟩, hlex⟩, hfs⟩ := hB
  have hn' : n < l.length := by simpa using hn
  have htl : (l.take n).length = n := by simp; omega
  have hdl : (l.drop n).length = l.toArray.size - n := by simp
  have inv0 : HeadInv .any l.toArray n (Array.replicate l.toArray.size false) :=
    ⟨by simp, fun j oj _ hl => (by rw [getD_replicate_false] at hl; cases hl), fun t _ ht => getD_in (by simpa using ht) (getD_replicate_false _ _)⟩
  have hLs : ∀ (listed : Array Bool) (a' : Act) (F : Facts) (w' : World), (Region.seqB .any l.toArray (l.toArray.size - n) n listed = true ∧ ∀ w', Le w w' → (∀ d, F d w') → wpList P l.toArray Q (l.drop n) a' w') → Le w w' → (∀ d, F d w') → wpAny P .any l.toArray Q (l.toArray.size - n) listed a' w' := fun listed a' F w' hL hb hF => by
    have := wpAny_of_seq (md := .any) (Q' := Q) (l.drop n) n listed a' w' (fun j => by simp [List.getElem?_drop]) (by rw [hdl]; exact hL.1) (hL.2 w' hb hF)
    rwa [hdl] at this
  have H := rel_to_GE (n := n) (g := l.toArray.size - n) (Q := Q) (L := fun listed a F => Region.seqB .any l.toArray (l.toArray.size - n) n listed = true ∧ ∀ w', Le w w' → (∀ d, F d w') → wpList P l.toArray Q (l.drop n) a w') (Lq := fun a' F => ∀ w', Le w w' → (∀ d, F d w') → wpList P l.toArray Q (l.drop n) a' w')
    (fun w1 w2 h1 h2 => Le.trans h2 h1) hsel (HeadInv .any l.toArray n) (fun _ _ hi hj hjn => hi.set hj hjn) (fun k => Fs.contains k)
    (fun k o hk ho => by
      have h1 := (Bool.and_eq_true _ _ ▸ List.all_eq_true.1 hfs k (by simpa using hk) : _ ∧ _).2
      simp only [ho] at h1
      exact worldFree h1)
    (fun k hk => by
      have h1 := (Bool.and_eq_true _ _ ▸ List.all_eq_true.1 hfs k (by simpa using hk) : _ ∧ _).1
      simpa using h1)
    (fun k oi v c a w _ _ => hQ _ v c a w) hLs (fun listed hi => head_le hc hi)
    (fun listed i hi hin hiF hun j hj => by
      rcases Nat.lt_or_ge j n with h2 | h2
      · exact h2
      · exact absurd hj (tail_waitsF hs hnF hc hn hi _ i rfl hin hiF hun j h2)) (fun listed a F hL => seqB_ready hL.1)
    (Region.lexHead .any l.toArray (l.toArray.size - n)) (fun f k listed h => by simp only [Region.lexHead, Bool.and_eq_true] at h; exact ⟨h.1.1, h.1.2, h.2⟩) (fun k listed a F hk h hq => ⟨by subst hk; simpa [Region.lexHead] using h, hq⟩)
    (l.take n) 0 (Array.replicate l.toArray.size false) a (fun _ _ => True) w.drew (fun j hj => by
      have hj' : j < n := by rw [htl] at hj; exact hj
      simp [hj']) (by simpa using htl) inv0 (by rw [htl]; exact hlex) (fun _ _ _ _ _ => trivial) (fun _ _ _ => trivial) (Below.refl _ _).drew (fun _ => trivial) h
  refine wp_region_any hm ?_
  have := GE.any (Q := Q) (g := l.toArray.size - n) (fun w1 w2 h1 h2 => Le.trans h2 h1) hLs _ _ _ _ _ (fun _ _ _ _ _ => trivial) H (Below.refl w.heap.size w).drew (fun _ => trivial)
  rw [htl, show n + (l.toArray.size - n) = l.toArray.size by omega] at this
  exact this
end
end Go.Proofs.Ytkpnjnkfbhomgaa
