/- The engine for drawn regions that ask a reader and store one struct on the way: the relation between worlds is the user's. -/
import Derived.Test.YtpeojnknfonmlaaHB
import Derived.Test.YtpeojnknfonmlaaRF
set_option linter.unusedVariables false
namespace Go.Proofs.Ytpeojnknfonmlaa
open Go.RowKit
section
variable {P : Program} {ops : Array Oper} {md : Region.Mode}
section
variable (Le : World → World → Prop)
def Ran4 (P : Program) (R : Value → World → Prop) (w : World) : Result Next → Prop
  | .ok (.value u) w' => Le w w' ∧ R u w'
  | .ok .skip w' => Le w w' ∧ R undef w'
  | .ok (.enter f args) w' => Calls P f args w' fun e w'' => ∃ v, e = .returned v ∧ Le w w'' ∧ R v w''
  | _ => False
@[go_sem] theorem ran4_value (R : Value → World → Prop) (w : World) (u : Value) (w' : World) : Ran4 Le P R w (.ok (.value u) w') = (Le w w' ∧ R u w') := rfl
@[go_sem] theorem ran4_skip (R : Value → World → Prop) (w : World) (w' : World) : Ran4 Le P R w (.ok .skip w') = (Le w w' ∧ R undef w') := rfl
@[go_sem] theorem ran4_enter (R : Value → World → Prop) (w : World) (f : FuncId) (args : Array Value) (w' : World) : Ran4 Le P R w (.ok (.enter f args) w') = Calls P f args w' fun e w'' => ∃ v, e = .returned v ∧ Le w w'' ∧ R v w'' := rfl
end
variable {Le : World → World → Prop}
variable (P md ops Le) (B : Nat → World → Prop) (Sh : Nat → Value → Prop) (Φ : Nat → Value → World → Prop) (Rl : Nat → Bool)
def Told4 (i : Nat) (o : Oper) (F : Facts) (a : Act) : Prop :=
  Region.wanted o (yielded ops a.tmps) = true ∧ (∃ v, Sh i v) ∧ ∀ j w, B (j + 1) w → Deps md F o w → Ran4 Le P (fun v w' => Sh i v ∧ B j w' ∧ Φ i v w') w ((execOp a.eval o).run P w)
def GR4 (n : Nat) (L : Array Bool → Act → Facts → Prop) : Nat → Array Bool → Act → Facts → Prop
  | 0, listed, a, F => L listed a F
  | f + 1, listed, a, F => Region.ready md ops listed ≠ [] ∧ ∀ i ∈ Region.ready md ops listed, i < n ∧ ∃ o, ops[i]? = some o ∧
      ((Rl i = false ∧ ∃ v, Plain2 P ops B o v a ∧ GR4 n L f (listed.setIfInBounds i true) (a.put o.dst v) (setF F i (Deps md F o))) ∨
       (Rl i = true ∧ Told4 P ops md Le B Sh Φ i o F a ∧ ∀ v, Sh i v → GR4 n L f (listed.setIfInBounds i true) (a.put o.dst v) (setF F i (Known2 Le Φ md F i o v))))
variable {P md ops Le B Sh Φ Rl}
theorem Told4.same {i : Nat} {o : Oper} {F F' : Facts} {a a' : Act} (h : Told4 P ops md Le B Sh Φ i o F a) (he : execOp a'.eval o = execOp a.eval o) (hw : Region.wanted o (yielded ops a'.tmps) = Region.wanted o (yielded ops a.tmps)) (hF : ∀ w, Deps md F' o w → Deps md F o w) : Told4 P ops md Le B Sh Φ i o F' a' := by
  unfold Told4 at *; rw [he, hw]; exact ⟨h.1, h.2.1, fun j w hb hd => h.2.2 j w hb (hF w hd)⟩
theorem GR4.any {n g : Nat} {L : Array Bool → Act → Facts → Prop} {Q : Exit → Act → World → Prop} (htr : ∀ a b c, Le a b → Le b c → Le a c) (hrf : ∀ a, Le a a) (hB : ∀ j w, B (j + 1) w → B j w)
    (hL : ∀ listed a F w, L listed a F → B 0 w → (∀ d, F d w) → wpAny P md ops Q g listed a w) :
    ∀ (f : Nat) (listed : Array Bool) (a : Act) (F : Facts) (w : World), Mono2 Le F → GR4 P ops md Le B Sh Φ Rl n L f listed a F → B f w → (∀ d, F d w) → wpAny P md ops Q (f + g) listed a w
  | 0, listed, a, F, w, _, h, hb, hF => by rw [Nat.zero_add]; exact hL _ _ _ _ h hb hF
  | f + 1, listed, a, F, w, hm, h, hb, hF => by
    rw [show f + 1 + g = (f + g) + 1 by omega]
    refine ⟨fun h0 => absurd h0 h.1, fun i hi => ?_⟩
    obtain ⟨_, o, ho, h1⟩ := h.2 i hi
    have hd : Deps md F o w := fun e _ _ => hF _
    unfold wpOp
    simp only [ho]
    rcases h1 with ⟨_, v, hp, hr⟩ | ⟨_, ht, hr⟩
    · have key : wpAny P md ops Q (f + g) (listed.setIfInBounds i true) (a.put o.dst v) w := GR4.any htr hrf hB hL f _ _ _ _ (hm.deps i o) hr (hB _ _ hb) fun d => by
        unfold setF; split
        · exact hd
        · exact hF d
      rcases hp with ⟨h2, h3⟩ | ⟨h2, rfl⟩
      · rw [if_pos h2]
        refine .inl ?_
        unfold Oper.wp
        rw [h3 _ w hb]
        exact key
      · rw [if_neg (by simp [h2])]; exact key
    · have key : ∀ v w', Le w w' → Sh i v ∧ B f w' ∧ Φ i v w' → wpAny P md ops Q (f + g) (listed.setIfInBounds i true) (a.put o.dst v) w' := fun v w' hl ⟨hs, hb', hφ⟩ => by
        have hk : Known2 Le Φ md F i o v w' := ⟨hd.mono2 hm hl, w', hrf _, hφ⟩
        have hall : ∀ d, setF F i (Known2 Le Φ md F i o v) d w' := fun d => by
          unfold setF; split
          · exact hk
          · exact hm _ _ _ hl (hF d)
        exact GR4.any htr hrf hB hL f _ _ _ _ (hm.known htr Φ i o v) (hr v hs) hb' hall
      rw [if_pos ht.1]
      refine .inl ?_
      have h3 := ht.2.2 f w hb hd
      unfold Oper.wp
      generalize (execOp a.eval o).run P w = r at *
      match r, h3 with
      | .ok (.value u) w', h3 => exact key _ _ h3.1 h3.2
      | .ok .skip w', h3 => exact key _ _ h3.1 h3.2
      | .ok (.enter f' args) w', h3 => exact Calls.mono h3 fun e w'' ⟨v, he, hl, hφ⟩ => by subst he; exact key _ _ hl hφ
/-- the part of one operation, i, at a state -/
def Part4 (i : Nat) (o : Oper) (F : Facts) (a : Act) (X : Value → Facts → Prop) : Prop :=
  (Rl i = false ∧ ∃ v, Plain2 P ops B o v a ∧ X v (setF F i (Deps md F o))) ∨ (Rl i = true ∧ Told4 P ops md Le B Sh Φ i o F a ∧ ∀ v, Sh i v → X v (setF F i (Known2 Le Φ md F i o v)))
theorem GR4.first {n i : Nat} {oi : Oper} {L : Array Bool → Act → Facts → Prop} (hw0 : ∃ j w, B j w) (hi : ops[i]? = some oi) (hsel : ∀ (j : Nat) (o : Oper) cs b, ops[j]? = some o → o.op ≠ .select cs b)
    (I : Array Bool → Prop) (hI : ∀ listed j, I listed → j ∈ Region.ready md ops listed → j < n → I (listed.setIfInBounds j true))
    (hwait : ∀ listed, I listed → listed.getD i true = false → ∀ j ∈ Region.ready md ops listed, j < n) (hin : i < n)
    (hdone : ∀ listed a F, L listed a F → ∀ j ∈ Region.ready md ops listed, n ≤ j) :
    ∀ (f : Nat) (listed : Array Bool) (a : Act) (F : Facts), I listed → (∀ j oj, ops[j]? = some oj → j ≠ i → listed.getD j true = false → (∀ e ∈ oj.after, Region.binds md e = true → e.on ≠ i) → oi.apart ops oj = true) →
      i ∈ Region.ready md ops listed → Part4 (P := P) (ops := ops) (md := md) (Le := Le) (B := B) (Sh := Sh) (Φ := Φ) (Rl := Rl) i oi F a (fun v F' => GR4 P ops md Le B Sh Φ Rl n L f (listed.setIfInBounds i true) (a.put oi.dst v) F') → GR4 P ops md Le B Sh Φ Rl n L (f + 1) listed a F := by
  intro f
  induction f with
  | zero =>
    intro listed a F hinv _ hr H
    refine ⟨fun h => (by rw [h] at hr; cases hr), fun j hj => ?_⟩
    have hjn := hwait listed hinv (mem_ready.1 hr).1 j hj
    refine ⟨hjn, ?_⟩
    by_cases hji : j = i
    · subst hji; exact ⟨oi, hi, H⟩
    · exfalso
      have : ∃ a' F', L (listed.setIfInBounds i true) a' F' := by
        rcases H with ⟨_, v, _, h⟩ | ⟨_, ht, h⟩
        · exact ⟨_, _, h⟩
        · obtain ⟨v, hs⟩ := ht.2.1
          exact ⟨_, _, h v hs⟩
      obtain ⟨a', F', h⟩ := this
      have := hdone _ _ _ h j (ready_mono hj hji)
      omega
  | succ f ih =>
    intro listed a F hinv hfree hr H
    have hun := (mem_ready.1 hr).1
    refine ⟨fun h => (by rw [h] at hr; cases hr), fun j hj => ?_⟩
    have hjn := hwait listed hinv hun j hj
    refine ⟨hjn, ?_⟩
    by_cases hji : j = i
    · subst hji; exact ⟨oi, hi, H⟩
    · obtain ⟨_, oj, hoj, hall⟩ := mem_ready.1 hj
      have hnot : ∀ e ∈ oj.after, Region.binds md e = true → e.on ≠ i := fun e he hbd heq => by
        have h1 := hall e he hbd
        rw [heq, getD_both hun] at h1
        cases h1
      obtain ⟨oi', hoi', halli⟩ := (mem_ready.1 hr).2
      obtain rfl : oi' = oi := Option.some.inj (hoi'.symm.trans hi)
      have hnoti : ∀ e ∈ oi'.after, Region.binds md e = true → e.on ≠ j := fun e he hbd heq => by
        have h1 := halli e he hbd
        rw [heq, getD_both (mem_ready.1 hj).1] at h1
        cases h1
      obtain ⟨p1, p2, p3⟩ := Oper.apart_spec (hfree j oj hoj hji (mem_ready.1 hj).1 hnot)
      have ej : ∀ v, execOp (a.put oi'.dst v).eval oj = execOp a.eval oj := fun v => execOp_put oj (fun cs b => hsel j oj cs b hoj) a oi'.dst v p1
      have wj : ∀ v, Region.wanted oj (yielded ops (a.put oi'.dst v).tmps) = Region.wanted oj (yielded ops a.tmps) := fun v => wanted_put oj a oi'.dst v p1
      have ei : ∀ v, execOp (a.put oj.dst v).eval oi' = execOp a.eval oi' := fun v => execOp_put oi' (fun cs b => hsel i oi' cs b hi) a oj.dst v p3
      have wi : ∀ v, Region.wanted oi' (yielded ops (a.put oj.dst v).tmps) = Region.wanted oi' (yielded ops a.tmps) := fun v => wanted_put oi' a oj.dst v p3
      -- j's part at a state in which i has come up goes over to the state without
      have back : ∀ (vi : Value) (p : World → Prop), GR4 P ops md Le B Sh Φ Rl n L (f + 1) (listed.setIfInBounds i true) (a.put oi'.dst vi) (setF F i p) →
          (Rl j = false ∧ ∃ v, Plain2 P ops B oj v a ∧ GR4 P ops md Le B Sh Φ Rl n L f ((listed.setIfInBounds i true).setIfInBounds j true) ((a.put oi'.dst vi).put oj.dst v) (setF (setF F i p) j (Deps md F oj))) ∨
          (Rl j = true ∧ Told4 P ops md Le B Sh Φ j oj F a ∧ ∀ v, Sh j v → GR4 P ops md Le B Sh Φ Rl n L f ((listed.setIfInBounds i true).setIfInBounds j true) ((a.put oi'.dst vi).put oj.dst v) (setF (setF F i p) j (Known2 Le Φ md F j oj v))) := by
        intro vi p h
        have hD : Deps md (setF F i p) oj = Deps md F oj := funext fun w => propext (deps_set hnot w)
        have hK : ∀ v, Known2 Le Φ md (setF F i p) j oj v = Known2 Le Φ md F j oj v := fun v => by unfold Known2; rw [hD]
        obtain ⟨_, oj', hoj', h2⟩ := h.2 j (ready_mono hj hji)
        obtain rfl : oj' = oj := Option.some.inj (hoj'.symm.trans hoj)
        rcases h2 with ⟨r, v, h3, h4⟩ | ⟨r, h3, h4⟩
        · exact .inl ⟨r, v, h3.same (ej vi).symm (wj vi).symm, by rwa [hD] at h4⟩
        · refine .inr ⟨r, h3.same (ej vi).symm (wj vi).symm (fun w h => by rwa [hD]), fun v hv => ?_⟩
          have := h4 v hv
          rwa [hK] at this
      have hDi : ∀ p, Deps md (setF F j p) oi' = Deps md F oi' := fun p => funext fun w => propext (deps_set hnoti w)
      have hKi : ∀ p v, Known2 Le Φ md (setF F j p) i oi' v = Known2 Le Φ md F i oi' v := fun p v => by unfold Known2; rw [hDi]
      have freej : ∀ k ok, ops[k]? = some ok → k ≠ i → (listed.setIfInBounds j true).getD k true = false → (∀ e ∈ ok.after, Region.binds md e = true → e.on ≠ i) → oi'.apart ops ok = true := fun k ok hk hki hunk hno => by
        refine hfree k ok hk hki ?_ hno
        by_cases hjk : j = k
        · subst hjk; exact (mem_ready.1 hj).1
        · rw [getD_set_ne true hjk] at hunk; exact hunk
      refine ⟨oj, hoj, ?_⟩
      -- what i asks, behind j
      have go : ∀ (vj : Value) (p : World → Prop),
          ((Rl i = false ∧ ∃ v, Plain2 P ops B oi' v a ∧ GR4 P ops md Le B Sh Φ Rl n L f ((listed.setIfInBounds i true).setIfInBounds j true) ((a.put oi'.dst v).put oj.dst vj) (setF (setF F i (Deps md F oi')) j p)) ∨
            (Rl i = true ∧ Told4 P ops md Le B Sh Φ i oi' F a ∧ ∀ v, Sh i v → GR4 P ops md Le B Sh Φ Rl n L f ((listed.setIfInBounds i true).setIfInBounds j true) ((a.put oi'.dst v).put oj.dst vj) (setF (setF F i (Known2 Le Φ md F i oi' v)) j p))) →
          GR4 P ops md Le B Sh Φ Rl n L (f + 1) (listed.setIfInBounds j true) (a.put oj.dst vj) (setF F j p) := by
        intro vj p h
        refine ih _ _ _ (hI _ _ hinv hj hjn) freej (ready_mono hr (Ne.symm hji)) ?_
        rcases h with ⟨r, vi, h3, h4⟩ | ⟨r, h3, h4⟩
        · refine .inl ⟨r, vi, h3.same (ei vj) (wi vj), ?_⟩
          show GR4 P ops md Le B Sh Φ Rl n L f _ _ _
          rw [hDi, Array.setIfInBounds_comm _ _ hji, ← Act.put_comm a vi vj p2, ← setF_comm _ _ (Ne.symm hji)]
          exact h4
        · refine .inr ⟨r, h3.same (ei vj) (wi vj) (fun w h => by rwa [hDi] at h), fun vi hvi => ?_⟩
          rw [hKi]
          show GR4 P ops md Le B Sh Φ Rl n L f _ _ _
          rw [Array.setIfInBounds_comm _ _ hji, ← Act.put_comm a vi vj p2, ← setF_comm _ _ (Ne.symm hji)]
          exact h4 vi hvi
      cases hRj : Rl j with
      | false =>
        refine .inl ⟨rfl, ?_⟩
        rcases H with ⟨r, vi, h3, h4⟩ | ⟨r, h3, h4⟩
        · rcases back vi _ h4 with ⟨_, vj, h5, h6⟩ | ⟨r5, _⟩
          · exact ⟨vj, h5, go vj _ (.inl ⟨r, vi, h3, h6⟩)⟩
          · rw [hRj] at r5; cases r5
        · obtain ⟨v0, hv0⟩ := h3.2.1
          rcases back v0 _ (h4 v0 hv0) with ⟨_, vj, h5, h6⟩ | ⟨r5, _⟩
          · refine ⟨vj, h5, go vj _ (.inr ⟨r, h3, fun vi hvi => ?_⟩)⟩
            rcases back vi _ (h4 vi hvi) with ⟨_, vj', h7, h8⟩ | ⟨r5, _⟩
            · obtain rfl := h5.one hw0 h7
              exact h8
            · rw [hRj] at r5; cases r5
          · rw [hRj] at r5; cases r5
      | true =>
        have hT : Told4 P ops md Le B Sh Φ j oj F a := by
          rcases H with ⟨r, vi, h3, h4⟩ | ⟨r, h3, h4⟩
          · rcases back vi _ h4 with ⟨r5, _⟩ | ⟨_, h5, _⟩
            · rw [hRj] at r5; cases r5
            · exact h5
          · obtain ⟨v0, hv0⟩ := h3.2.1
            rcases back v0 _ (h4 v0 hv0) with ⟨r5, _⟩ | ⟨_, h5, _⟩
            · rw [hRj] at r5; cases r5
            · exact h5
        refine .inr ⟨rfl, hT, fun vj hvj => ?_⟩
        refine go vj _ ?_
        rcases H with ⟨r, vi, h3, h4⟩ | ⟨r, h3, h4⟩
        · rcases back vi _ h4 with ⟨r5, _⟩ | ⟨_, _, h6⟩
          · rw [hRj] at r5; cases r5
          · exact .inl ⟨r, vi, h3, h6 vj hvj⟩
        · refine .inr ⟨r, h3, fun vi hvi => ?_⟩
          rcases back vi _ (h4 vi hvi) with ⟨r5, _⟩ | ⟨_, _, h6⟩
          · rw [hRj] at r5; cases r5
          · exact h6 vj hvj
variable (P md ops Le B Sh Φ Rl) in
/-- the operations of a list from number k on, in the order of the text; then L -/
def RelAll4 (L : Act → Facts → Prop) : Nat → List Oper → Act → Facts → Prop
  | _, [], a, F => L a F
  | k, o :: l, a, F =>
    (Rl k = false ∧ ∃ v, Plain2 P ops B o v a ∧ RelAll4 L (k + 1) l (a.put o.dst v) (setF F k (Deps md F o))) ∨
    (Rl k = true ∧ Told4 P ops md Le B Sh Φ k o F a ∧ ∀ v, Sh k v → RelAll4 L (k + 1) l (a.put o.dst v) (setF F k (Known2 Le Φ md F k o v)))
theorem rel_to_GR4 {n : Nat} {L : Array Bool → Act → Facts → Prop} {Lq : Act → Facts → Prop} (hw0 : ∃ j w, B j w) (hsel : Region.noSelect ops = true)
    (I : Array Bool → Prop) (hI : ∀ listed j, I listed → j ∈ Region.ready md ops listed → j < n → I (listed.setIfInBounds j true))
    (hwait : ∀ listed i, I listed → i < n → listed.getD i true = false → ∀ j ∈ Region.ready md ops listed, j < n) (hdone : ∀ listed a F, L listed a F → ∀ j ∈ Region.ready md ops listed, n ≤ j)
    (chk : Nat → Nat → Array Bool → Bool) (hchk : ∀ f k listed, chk (f + 1) k listed = true → (Region.ready md ops listed).contains k = true ∧ Region.free md ops listed k = true ∧ chk f (k + 1) (listed.setIfInBounds k true) = true)
    (hend : ∀ k listed a F, k = n → chk 0 k listed = true → Lq a F → L listed a F) :
    ∀ (l : List Oper) (k : Nat) (listed : Array Bool) (a : Act) (F : Facts), (∀ j, j < l.length → l[j]? = ops[k + j]?) → k + l.length = n → I listed → chk l.length k listed = true →
    RelAll4 P ops md Le B Sh Φ Rl Lq k l a F → GR4 P ops md Le B Sh Φ Rl n L l.length listed a F
  | [], k, listed, a, F, _, hk, _, hB, h => hend k listed a F (by simpa using hk) (by simpa using hB) h
  | o :: l, k, listed, a, F, hl, hk, inv, hB, h => by
    have h0 : ops[k]? = some o := by simpa using (hl 0 (by simp)).symm
    obtain ⟨hr, hf, hB'⟩ := hchk l.length k listed (by simpa using hB)
    have hkn : k < n := by simp only [List.length_cons] at hk; omega
    have hr' : k ∈ Region.ready md ops listed := by simpa using hr
    have hl' : ∀ j, j < l.length → l[j]? = ops[k + 1 + j]? := fun j hj => by have := hl (j + 1) (by simp; omega); simpa [Nat.add_assoc, Nat.add_comm 1 j] using this
    have hk' : k + 1 + l.length = n := by simp only [List.length_cons] at hk; omega
    refine GR4.first hw0 h0 (Region.noSelect_spec hsel) I hI (fun listed hi hun j hj => hwait listed k hi hkn hun j hj) hkn hdone l.length listed a F inv (Region.free_spec h0 hf) hr' ?_
    rcases h with ⟨r, v, h1, h2⟩ | ⟨r, h1, h2⟩
    · exact .inl ⟨r, v, h1, rel_to_GR4 hw0 hsel I hI hwait hdone chk hchk hend l (k + 1) _ _ _ hl' hk' (hI _ _ inv hr' hkn) hB' h2⟩
    · exact .inr ⟨r, h1, fun v hv => rel_to_GR4 hw0 hsel I hI hwait hdone chk hchk hend l (k + 1) _ _ _ hl' hk' (hI _ _ inv hr' hkn) hB' (h2 v hv)⟩
theorem RelAll4.weaker {L : Act → Facts → Prop} (hL : ∀ a F F', (∀ d w, F d w → F' d w) → L a F' → L a F) : ∀ (l : List Oper) (k : Nat) (a : Act) (F F' : Facts), (∀ d w, F d w → F' d w) → RelAll4 P ops md Le B Sh Φ Rl L k l a F' → RelAll4 P ops md Le B Sh Φ Rl L k l a F
  | [], _, a, F, F', hF, h => hL a F F' hF h
  | o :: l, k, a, F, F', hF, h => by
    have hD : ∀ w, Deps md F o w → Deps md F' o w := fun w hd e he hb => hF _ _ (hd e he hb)
    have hK : ∀ v w, Known2 Le Φ md F k o v w → Known2 Le Φ md F' k o v w := fun v w h => ⟨hD w h.1, h.2⟩
    have hset : ∀ p p' : World → Prop, (∀ w, p w → p' w) → ∀ d w, setF F k p d w → setF F' k p' d w := fun p p' hp d w h => by
      unfold setF at *; split
      · rename_i e; rw [if_pos e] at h; exact hp w h
      · rename_i e; rw [if_neg e] at h; exact hF _ _ h
    rcases h with ⟨r, v, h1, h2⟩ | ⟨r, h1, h2⟩
    · exact .inl ⟨r, v, h1, RelAll4.weaker hL l _ _ _ _ (hset _ _ hD) h2⟩
    · exact .inr ⟨r, h1.same rfl rfl hD, fun v hv => RelAll4.weaker hL l _ _ _ _ (hset _ _ (hK v)) (h2 v hv)⟩
end
/-- a later world in which the reader may be asked j times more -/
def BG4 (Le : World → World → Prop) (t : TypeId) (g K : Nat) (w : World) (j : Nat) (w' : World) : Prop := Le w w' ∧ ∃ M, M + j ≤ K ∧ Rdr t w' g M
section
variable {P : Program} {ops : Array Oper} {md : Region.Mode}
theorem rel4_tail_b {Le : World → World → Prop} (htr : ∀ a b c, Le a b → Le b c → Le a c) (hrf : ∀ a, Le a a) (hdr : ∀ a, Le a a.drew) {t : TypeId} {g N : Nat} {id : Nat} {Q : Exit → Act → World → Prop} {a : Act} {w : World} {l : List Oper} (n : Nat) (T : Tell2) (hr : Rdr t w g N) (hm : P.follows .mixedOrders = true) (hB : Region.lexTailB .any l.toArray n = true)
    (h : RelAll4 P l.toArray .any Le (BG4 Le t g (N + n) w) T.sh T.at_ T.is (fun a' F => ∀ w', Le w w' → Rdr t w' g (N + n) → (∀ d, F d w') → wpList P l.toArray Q (l.drop n) a' w') 0 (l.take n) a (fun _ _ => True)) : (Code.region id l.toArray true).wp P Q a w := by
  simp only [Region.lexTailB, Bool.and_eq_true, decide_eq_true_eq] at hB
  obtain ⟨⟨⟨⟨hsel, hn⟩, hs⟩, hc⟩, hlex⟩ := hB
  have hn' : n < l.length := by simpa using hn
  have htl : (l.take n).length = n := by simp; omega
  have hdl : (l.drop n).length = l.toArray.size - n := by simp
  have inv0 : HeadInv .any l.toArray n (Array.replicate l.toArray.size false) :=
    ⟨by simp, fun j oj _ hl => (by rw [getD_replicate_false] at hl; cases hl), fun t _ ht => getD_in (by simpa using ht) (getD_replicate_false _ _)⟩
  have b0 : BG4 Le t g (N + n) w n w.drew := ⟨hdr _, N, Nat.le_refl _, hr.d⟩
  have H := rel_to_GR4 (Le := Le) (B := BG4 Le t g (N + n) w) (n := n) (L := fun listed a F => Region.seqB .any l.toArray (l.toArray.size - n) n listed = true ∧ ∀ w', Le w w' → Rdr t w' g (N + n) → (∀ d, F d w') → wpList P l.toArray Q (l.drop n) a w') (Lq := fun a' F => ∀ w', Le w w' → Rdr t w' g (N + n) → (∀ d, F d w') → wpList P l.toArray Q (l.drop n) a' w')
    ⟨_, _, b0⟩ hsel (HeadInv .any l.toArray n) (fun _ _ hi hj hjn => hi.set hj hjn)
    (fun listed i hi hin hun j hj => by
      rcases Nat.lt_or_ge j n with h2 | h2
      · exact h2
      · exact absurd hj (tail_waits hs hc hn hi _ i rfl hin hun j h2)) (fun listed a F hL => seqB_ready hL.1)
    (Region.lexHead .any l.toArray (l.toArray.size - n)) (fun f k listed h => by simp only [Region.lexHead, Bool.and_eq_true] at h; exact ⟨h.1.1, h.1.2, h.2⟩) (fun k listed a F hk h hq => ⟨by subst hk; simpa [Region.lexHead] using h, hq⟩)
    (l.take n) 0 (Array.replicate l.toArray.size false) a (fun _ _ => True) (fun j hj => by
      have hj' : j < n := by rw [htl] at hj; exact hj
      simp [hj']) (by simpa using htl) inv0 (by rw [htl]; exact hlex) h
  refine wp_region_any hm ?_
  have := GR4.any (Le := Le) (B := BG4 Le t g (N + n) w) (Q := Q) (g := l.toArray.size - n) htr hrf (fun j w' ⟨h1, M, h2, h3⟩ => ⟨h1, M, by omega, h3⟩) (fun listed a' F w' hL hb hF => by
    obtain ⟨h1, M, h2, h3⟩ := hb
    have := wpAny_of_seq (md := .any) (Q' := Q) (l.drop n) n listed a' w' (fun j => by simp [List.getElem?_drop]) (by rw [hdl]; exact hL.1) (hL.2 w' h1 (h3.up (by omega)) hF)
    rwa [hdl] at this) _ _ _ _ _ (fun _ _ _ _ _ => trivial) H (by rw [htl]; exact b0) (fun _ => trivial)
  rw [htl, show n + (l.toArray.size - n) = l.toArray.size by omega] at this
  exact this
/-! the steps of a walk -/
variable {Le : World → World → Prop} {t : TypeId} {g K : Nat} {T : Tell2} {w : World} {k : Nat} {o : Oper} {l : List Oper} {a : Act} {F : Facts}
theorem rel4_plain {L : World → Act → Prop} (v : Value) (hR : T.is k = false) (hF : ∀ w, F k w) (hg : Region.wanted o (yielded ops a.tmps) = true) (h : ∀ w', Le w w' → (execOp a.eval o).run P w' = .ok (.value v) w')
    (hl : RelAll4 P ops md Le (BG4 Le t g K w) T.sh T.at_ T.is (fun a' F => ∀ w', Le w w' → Rdr t w' g K → (∀ d, F d w') → L w' a') (k + 1) l (a.put o.dst v) F) : RelAll4 P ops md Le (BG4 Le t g K w) T.sh T.at_ T.is (fun a' F => ∀ w', Le w w' → Rdr t w' g K → (∀ d, F d w') → L w' a') k (o :: l) a F :=
  .inl ⟨hR, v, .inl ⟨hg, fun j w hb => h w hb.1⟩, RelAll4.weaker (fun a F F' hF h w' hb hr hd => h w' hb hr fun d => hF d w' (hd d)) _ _ _ _ _ (fun d w hd => by
    unfold setF at hd; split at hd
    · rename_i e; subst e; exact hF w
    · exact hd) hl⟩
theorem rel4_deps {L : World → Act → Prop} (v : Value) (hR : T.is k = false) (hg : Region.wanted o (yielded ops a.tmps) = true) (h : ∀ w', Le w w' → (execOp a.eval o).run P w' = .ok (.value v) w')
    (hl : RelAll4 P ops md Le (BG4 Le t g K w) T.sh T.at_ T.is (fun a' F => ∀ w', Le w w' → Rdr t w' g K → (∀ d, F d w') → L w' a') (k + 1) l (a.put o.dst v) (setF F k (Deps md F o))) : RelAll4 P ops md Le (BG4 Le t g K w) T.sh T.at_ T.is (fun a' F => ∀ w', Le w w' → Rdr t w' g K → (∀ d, F d w') → L w' a') k (o :: l) a F :=
  .inl ⟨hR, v, .inl ⟨hg, fun j w hb => h w hb.1⟩, hl⟩
theorem rel4_told (htr : ∀ a b c, Le a b → Le b c → Le a c) {L : World → Act → Prop} (hR : T.is k = true) (hg : Region.wanted o (yielded ops a.tmps) = true) (hs : ∃ v, T.sh k v) (h : ∀ w' M, Le w w' → Rdr t w' g M → M + 1 ≤ K → Deps md F o w' → Ran4 Le P (fun v w'' => (T.sh k v ∧ T.at_ k v w'') ∧ Rdr t w'' g (M + 1)) w' ((execOp a.eval o).run P w'))
    (hl : ∀ v, T.sh k v → RelAll4 P ops md Le (BG4 Le t g K w) T.sh T.at_ T.is (fun a' F => ∀ w', Le w w' → Rdr t w' g K → (∀ d, F d w') → L w' a') (k + 1) l (a.put o.dst v) (setF F k (Known2 Le T.at_ md F k o v))) : RelAll4 P ops md Le (BG4 Le t g K w) T.sh T.at_ T.is (fun a' F => ∀ w', Le w w' → Rdr t w' g K → (∀ d, F d w') → L w' a') k (o :: l) a F :=
  .inr ⟨hR, ⟨hg, hs, fun j w1 hb hd => by
    obtain ⟨h1, M, h2, h3⟩ := hb
    have := h w1 M h1 h3 (by omega) hd
    generalize (execOp a.eval o).run P w1 = r at *
    match r, this with
    | .ok (.value u) w', h4 => exact ⟨h4.1, h4.2.1.1, ⟨htr _ _ _ h1 h4.1, M + 1, by omega, h4.2.2⟩, h4.2.1.2⟩
    | .ok .skip w', h4 => exact ⟨h4.1, h4.2.1.1, ⟨htr _ _ _ h1 h4.1, M + 1, by omega, h4.2.2⟩, h4.2.1.2⟩
    | .ok (.enter f args) w', h4 => exact Calls.mono h4 fun e w'' ⟨v, he, hl, hφ⟩ => ⟨v, he, hl, hφ.1.1, ⟨htr _ _ _ h1 hl, M + 1, by omega, hφ.2⟩, hφ.1.2⟩⟩, hl⟩
theorem rel4_nil {L : World → Act → Prop} (h : ∀ w', Le w w' → Rdr t w' g K → (∀ d, F d w') → L w' a) : RelAll4 P ops md Le (BG4 Le t g K w) T.sh T.at_ T.is (fun a' F => ∀ w', Le w w' → Rdr t w' g K → (∀ d, F d w') → L w' a') k [] a F := h
end
theorem Known4.out {Le : World → World → Prop} {T : Tell2} {md : Region.Mode} {F : Facts} {i : Nat} {o : Oper} {v : Value} {w : World} {s : Value → Prop} {φ : Value → World → Prop} (h : Known2 Le T.at_ md F i o v w) (hl : T.look i = some (s, φ)) : ∃ w0, Le w0 w ∧ φ v w0 := by
  obtain ⟨_, w0, h1, h2⟩ := h
  exact ⟨w0, h1, Tell2.outf h2 hl⟩
/-! whole numbers and short arrays, as they are told -/
/-- block g may be another; block R holds cs0 or cs1, and, once cs1, stays so -/
def LeR (g R : Nat) (cs0 cs1 : Array Value) (t : TypeId) (w w' : World) : Prop := GrownS w w' (fun k => k = g ∨ k = R) ∧ ((Blk w R cs0 t ∨ Blk w R cs1 t) → (Blk w' R cs0 t ∨ Blk w' R cs1 t)) ∧ (Blk w R cs1 t → Blk w' R cs1 t)
section
variable {g R : Nat} {cs0 cs1 : Array Value} {t : TypeId}
theorem leR_tr (a b c : World) (h : LeR g R cs0 cs1 t a b) (h' : LeR g R cs0 cs1 t b c) : LeR g R cs0 cs1 t a c := ⟨h.1.trans h'.1, fun x => h'.2.1 (h.2.1 x), fun x => h'.2.2 (h.2.2 x)⟩
theorem leR_rf (a : World) : LeR g R cs0 cs1 t a a := ⟨GrownS.refl _ _, id, id⟩
theorem leR_g {w w' : World} (hne : R ≠ g) (hg : GrownS w w' (fun k => k = g)) : LeR g R cs0 cs1 t w w' :=
  ⟨⟨hg.os, hg.tape, hg.output, hg.size, fun k hk hn => hg.block k hk (fun e => hn (.inl e))⟩, fun x => x.elim (fun x => .inl (x.g1 hg hne)) (fun x => .inr (x.g1 hg hne)), fun x => x.g1 hg hne⟩
theorem leR_dr (hne : R ≠ g) (a : World) : LeR g R cs0 cs1 t a a.drew := leR_g hne (gr_drew (GrownS.refl _ _))
theorem leR_cell {w w' : World} (h : LeR g R cs0 cs1 t w w') : (∀ b o, b < w.heap.size → b ≠ g → b ≠ R → w'.cell? ⟨b, o, none⟩ = w.cell? ⟨b, o, none⟩) ∧ (∀ b o, b < w.heap.size → b ≠ g → b ≠ R → w'.frozen? ⟨b, o, none⟩ = w.frozen? ⟨b, o, none⟩) :=
  ⟨fun b o h1 h2 h3 => World.cell?_of_block (w := w) (h.1.block b h1 (fun e => e.elim h2 h3)), fun b o h1 h2 h3 => World.frozen?_of_block (w := w) (h.1.block b h1 (fun e => e.elim h2 h3))⟩
/-- five cells are stored -/
theorem leR_put5 {w : World} {u0 u1 u2 u3 u4 : Value} (h : Blk w R #[.int .i64 0, .int .i64 0, .slice none 0 0, .int .i64 0, .int .i64 0] t ∨ Blk w R #[u0, u1, u2, u3, u4] t) : Blk (((((w.setCell ⟨R, 0, none⟩ u0).setCell ⟨R, 1, none⟩ u1).setCell ⟨R, 2, none⟩ u2).setCell ⟨R, 3, none⟩ u3).setCell ⟨R, 4, none⟩ u4) R #[u0, u1, u2, u3, u4] t := by
  rcases h with h | h
  · exact put5z h
  · simpa using ((((h.put 0 u0).put 1 u1).put 2 u2).put 3 u3).put 4 u4
theorem leR_st {w : World} {u0 u1 u2 u3 u4 : Value} (h : Blk w R #[.int .i64 0, .int .i64 0, .slice none 0 0, .int .i64 0, .int .i64 0] t ∨ Blk w R #[u0, u1, u2, u3, u4] t) : LeR g R #[.int .i64 0, .int .i64 0, .slice none 0 0, .int .i64 0, .int .i64 0] #[u0, u1, u2, u3, u4] t w (((((w.setCell ⟨R, 0, none⟩ u0).setCell ⟨R, 1, none⟩ u1).setCell ⟨R, 2, none⟩ u2).setCell ⟨R, 3, none⟩ u3).setCell ⟨R, 4, none⟩ u4) := by
  have hs : ∀ (W : World) (i : Nat) (u : Value), GrownS w W (fun k => k = g ∨ k = R) → GrownS w (W.setCell ⟨R, i, none⟩ u) (fun k => k = g ∨ k = R) := fun W i u h => gr_set (p := ⟨R, i, none⟩) h (.inl (.inr rfl)) u
  exact ⟨hs _ _ _ (hs _ _ _ (hs _ _ _ (hs _ _ _ (hs _ _ _ (GrownS.refl _ _))))), fun _ => .inr (leR_put5 h), fun _ => leR_put5 h⟩
end
end Go.Proofs.Ytpeojnknfonmlaa
