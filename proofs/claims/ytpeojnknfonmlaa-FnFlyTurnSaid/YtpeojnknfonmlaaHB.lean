/- A region whose order is drawn, with calls that change one block only (a reader) and can be made a counted number of times; walked once, in the order of the text. A call's answer is told by its shape, and by what holds of it in the world. -/
import Derived.Test.YtpeojnknfonmlaaJ4
import Derived.Test.YtpeojnknfonmlaaRA
set_option linter.unusedVariables false
namespace Go.Proofs.Ytpeojnknfonmlaa
open Go.RowKit
section
variable {P : Program} {ops : Array Oper} {md : Region.Mode}
section
variable (Le : World → World → Prop)
def Ran2 (P : Program) (R : Value → World → Prop) (w : World) : Result Next → Prop
  | .ok (.value u) w' => Le w w' ∧ R u w'
  | .ok (.enter f args) w' => Calls P f args w' fun e w'' => ∃ v, e = .returned v ∧ Le w w'' ∧ R v w''
  | _ => False
@[go_sem] theorem ran2_value (R : Value → World → Prop) (w : World) (u : Value) (w' : World) : Ran2 Le P R w (.ok (.value u) w') = (Le w w' ∧ R u w') := rfl
@[go_sem] theorem ran2_enter (R : Value → World → Prop) (w : World) (f : FuncId) (args : Array Value) (w' : World) : Ran2 Le P R w (.ok (.enter f args) w') = Calls P f args w' fun e w'' => ∃ v, e = .returned v ∧ Le w w'' ∧ R v w'' := rfl
def Known2 (Φ : Nat → Value → World → Prop) (md : Region.Mode) (F : Facts) (i : Nat) (o : Oper) (v : Value) (w : World) : Prop := Deps md F o w ∧ ∃ w0, Le w0 w ∧ Φ i v w0
def Mono2 (F : Facts) : Prop := ∀ d w w', Le w w' → F d w → F d w'
end
variable {Le : World → World → Prop}
theorem Deps.mono2 {F : Facts} {o : Oper} {w w' : World} (hF : Mono2 Le F) (h : Deps md F o w) (hl : Le w w') : Deps md F o w' := fun e he hb => hF _ _ _ hl (h e he hb)
theorem Mono2.deps {F : Facts} (hF : Mono2 Le F) (i : Nat) (o : Oper) : Mono2 Le (setF F i (Deps md F o)) := fun d w w' hl h => by
  unfold setF at *; split
  · rename_i e; rw [if_pos e] at h; exact h.mono2 hF hl
  · rename_i e; rw [if_neg e] at h; exact hF _ _ _ hl h
theorem Mono2.known (htr : ∀ a b c, Le a b → Le b c → Le a c) {F : Facts} (hF : Mono2 Le F) (Φ : Nat → Value → World → Prop) (i : Nat) (o : Oper) (v : Value) : Mono2 Le (setF F i (Known2 Le Φ md F i o v)) := fun d w w' hl h => by
  unfold setF at *; split
  · rename_i e; rw [if_pos e] at h
    obtain ⟨h1, w0, h2, h3⟩ := h
    exact ⟨h1.mono2 hF hl, w0, htr _ _ _ h2 hl, h3⟩
  · rename_i e; rw [if_neg e] at h; exact hF _ _ _ hl h
variable (P md ops Le) (B : Nat → World → Prop) (Sh : Nat → Value → Prop) (Φ : Nat → Value → World → Prop) (Rl : Nat → Bool)
def Plain2 (o : Oper) (v : Value) (a : Act) : Prop :=
  (Region.wanted o (yielded ops a.tmps) = true ∧ ∀ j w, B j w → (execOp a.eval o).run P w = .ok (.value v) w) ∨ (Region.wanted o (yielded ops a.tmps) = false ∧ v = undef)
def Told2 (i : Nat) (o : Oper) (F : Facts) (a : Act) : Prop :=
  Region.wanted o (yielded ops a.tmps) = true ∧ (∃ v, Sh i v) ∧ ∀ j w, B (j + 1) w → Deps md F o w → Ran2 Le P (fun v w' => Sh i v ∧ B j w' ∧ Φ i v w') w ((execOp a.eval o).run P w)
def GR2 (n : Nat) (L : Array Bool → Act → Facts → Prop) : Nat → Array Bool → Act → Facts → Prop
  | 0, listed, a, F => L listed a F
  | f + 1, listed, a, F => Region.ready md ops listed ≠ [] ∧ ∀ i ∈ Region.ready md ops listed, i < n ∧ ∃ o, ops[i]? = some o ∧
      ((Rl i = false ∧ ∃ v, Plain2 P ops B o v a ∧ GR2 n L f (listed.setIfInBounds i true) (a.put o.dst v) (setF F i (Deps md F o))) ∨
       (Rl i = true ∧ Told2 P ops md Le B Sh Φ i o F a ∧ ∀ v, Sh i v → GR2 n L f (listed.setIfInBounds i true) (a.put o.dst v) (setF F i (Known2 Le Φ md F i o v))))
variable {P md ops Le B Sh Φ Rl}
theorem Plain2.same {o : Oper} {v : Value} {a a' : Act} (h : Plain2 P ops B o v a) (he : execOp a'.eval o = execOp a.eval o) (hw : Region.wanted o (yielded ops a'.tmps) = Region.wanted o (yielded ops a.tmps)) : Plain2 P ops B o v a' := by
  unfold Plain2 at *; rw [he, hw]; exact h
theorem Told2.same {i : Nat} {o : Oper} {F F' : Facts} {a a' : Act} (h : Told2 P ops md Le B Sh Φ i o F a) (he : execOp a'.eval o = execOp a.eval o) (hw : Region.wanted o (yielded ops a'.tmps) = Region.wanted o (yielded ops a.tmps)) (hF : ∀ w, Deps md F' o w → Deps md F o w) : Told2 P ops md Le B Sh Φ i o F' a' := by
  unfold Told2 at *; rw [he, hw]; exact ⟨h.1, h.2.1, fun j w hb hd => h.2.2 j w hb (hF w hd)⟩
theorem Plain2.one {o : Oper} {v v' : Value} {a : Act} (h0 : ∃ j w, B j w) (h : Plain2 P ops B o v a) (h' : Plain2 P ops B o v' a) : v = v' := by
  obtain ⟨j, w, hb⟩ := h0
  rcases h with ⟨h1, h2⟩ | ⟨h1, rfl⟩ <;> rcases h' with ⟨h3, h4⟩ | ⟨h3, rfl⟩
  · have := (h2 j w hb).symm.trans (h4 j w hb)
    injection this with this
    injection this
  · rw [h1] at h3; cases h3
  · rw [h1] at h3; cases h3
  · rfl
theorem GR2.any {n g : Nat} {L : Array Bool → Act → Facts → Prop} {Q : Exit → Act → World → Prop} (htr : ∀ a b c, Le a b → Le b c → Le a c) (hrf : ∀ a, Le a a) (hB : ∀ j w, B (j + 1) w → B j w)
    (hL : ∀ listed a F w, L listed a F → B 0 w → (∀ d, F d w) → wpAny P md ops Q g listed a w) :
    ∀ (f : Nat) (listed : Array Bool) (a : Act) (F : Facts) (w : World), Mono2 Le F → GR2 P ops md Le B Sh Φ Rl n L f listed a F → B f w → (∀ d, F d w) → wpAny P md ops Q (f + g) listed a w
  | 0, listed, a, F, w, _, h, hb, hF => by rw [Nat.zero_add]; exact hL _ _ _ _ h hb hF
  | f + 1, listed, a, F, w, hm, h, hb, hF => by
    rw [show f + 1 + g = (f + g) + 1 by omega]
    refine ⟨fun h0 => absurd h0 h.1, fun i hi => ?_⟩
    obtain ⟨_, o, ho, h1⟩ := h.2 i hi
    have hd : Deps md F o w := fun e _ _ => hF _
    unfold wpOp
    simp only [ho]
    rcases h1 with ⟨_, v, hp, hr⟩ | ⟨_, ht, hr⟩
    · have key : wpAny P md ops Q (f + g) (listed.setIfInBounds i true) (a.put o.dst v) w := GR2.any htr hrf hB hL f _ _ _ _ (hm.deps i o) hr (hB _ _ hb) fun d => by
        unfold setF; split
        · exact hd
        · exact hF d
      rcases hp with ⟨h2, h3⟩ | ⟨h2, rfl⟩
      · rw [if_pos h2]
        refine .inl ?_
        unfold Oper.wp
        rw [h3 _ w hb]
        exact key
      · rw [if_neg (by simp [h2])]; exact key
    · have key : ∀ v w', Le w w' → Sh i v ∧ B f w' ∧ Φ i v w' → wpAny P md ops Q (f + g) (listed.setIfInBounds i true) (a.put o.dst v) w' := fun v w' hl ⟨hs, hb', hφ⟩ => by
        have hk : Known2 Le Φ md F i o v w' := ⟨hd.mono2 hm hl, w', hrf _, hφ⟩
        have hall : ∀ d, setF F i (Known2 Le Φ md F i o v) d w' := fun d => by
          unfold setF; split
          · exact hk
          · exact hm _ _ _ hl (hF d)
        exact GR2.any htr hrf hB hL f _ _ _ _ (hm.known htr Φ i o v) (hr v hs) hb' hall
      rw [if_pos ht.1]
      refine .inl ?_
      have h3 := ht.2.2 f w hb hd
      unfold Oper.wp
      generalize (execOp a.eval o).run P w = r at *
      match r, h3 with
      | .ok (.value u) w', h3 => exact key _ _ h3.1 h3.2
      | .ok (.enter f' args) w', h3 => exact Calls.mono h3 fun e w'' ⟨v, he, hl, hφ⟩ => by subst he; exact key _ _ hl hφ
/-- the part of one operation, i, at a state -/
def Part2 (i : Nat) (o : Oper) (F : Facts) (a : Act) (X : Value → Facts → Prop) : Prop :=
  (Rl i = false ∧ ∃ v, Plain2 P ops B o v a ∧ X v (setF F i (Deps md F o))) ∨ (Rl i = true ∧ Told2 P ops md Le B Sh Φ i o F a ∧ ∀ v, Sh i v → X v (setF F i (Known2 Le Φ md F i o v)))
theorem GR2.first {n i : Nat} {oi : Oper} {L : Array Bool → Act → Facts → Prop} (hw0 : ∃ j w, B j w) (hi : ops[i]? = some oi) (hsel : ∀ (j : Nat) (o : Oper) cs b, ops[j]? = some o → o.op ≠ .select cs b)
    (I : Array Bool → Prop) (hI : ∀ listed j, I listed → j ∈ Region.ready md ops listed → j < n → I (listed.setIfInBounds j true))
    (hwait : ∀ listed, I listed → listed.getD i true = false → ∀ j ∈ Region.ready md ops listed, j < n) (hin : i < n)
    (hdone : ∀ listed a F, L listed a F → ∀ j ∈ Region.ready md ops listed, n ≤ j) :
    ∀ (f : Nat) (listed : Array Bool) (a : Act) (F : Facts), I listed → (∀ j oj, ops[j]? = some oj → j ≠ i → listed.getD j true = false → (∀ e ∈ oj.after, Region.binds md e = true → e.on ≠ i) → oi.apart ops oj = true) →
      i ∈ Region.ready md ops listed → Part2 (P := P) (ops := ops) (md := md) (Le := Le) (B := B) (Sh := Sh) (Φ := Φ) (Rl := Rl) i oi F a (fun v F' => GR2 P ops md Le B Sh Φ Rl n L f (listed.setIfInBounds i true) (a.put oi.dst v) F') → GR2 P ops md Le B Sh Φ Rl n L (f + 1) listed a F := by
  intro f
  induction f with
  | zero =>
    intro listed a F hinv _ hr H
    refine ⟨fun h => (by rw [h] at hr; cases hr), fun j hj => ?_⟩
    have hjn := hwait listed hinv (mem_ready.1 hr).1 j hj
    refine ⟨hjn, ?_⟩
    by_cases hji : j = i
    · subst hji; exact ⟨oi, hi, H⟩
    · exfalso
      have : ∃ a' F', L (listed.setIfInBounds i true) a' F' := by
        rcases H with ⟨_, v, _, h⟩ | ⟨_, ht, h⟩
        · exact ⟨_, _, h⟩
        · obtain ⟨v, hs⟩ := ht.2.1
          exact ⟨_, _, h v hs⟩
      obtain ⟨a', F', h⟩ := this
      have := hdone _ _ _ h j (ready_mono hj hji)
      omega
  | succ f ih =>
    intro listed a F hinv hfree hr H
    have hun := (mem_ready.1 hr).1
    refine ⟨fun h => (by rw [h] at hr; cases hr), fun j hj => ?_⟩
    have hjn := hwait listed hinv hun j hj
    refine ⟨hjn, ?_⟩
    by_cases hji : j = i
    · subst hji; exact ⟨oi, hi, H⟩
    · obtain ⟨_, oj, hoj, hall⟩ := mem_ready.1 hj
      have hnot : ∀ e ∈ oj.after, Region.binds md e = true → e.on ≠ i := fun e he hbd heq => by
        have h1 := hall e he hbd
        rw [heq, getD_both hun] at h1
        cases h1
      obtain ⟨oi', hoi', halli⟩ := (mem_ready.1 hr).2
      obtain rfl : oi' = oi := Option.some.inj (hoi'.symm.trans hi)
      have hnoti : ∀ e ∈ oi'.after, Region.binds md e = true → e.on ≠ j := fun e he hbd heq => by
        have h1 := halli e he hbd
        rw [heq, getD_both (mem_ready.1 hj).1] at h1
        cases h1
      obtain ⟨p1, p2, p3⟩ := Oper.apart_spec (hfree j oj hoj hji (mem_ready.1 hj).1 hnot)
      have ej : ∀ v, execOp (a.put oi'.dst v).eval oj = execOp a.eval oj := fun v => execOp_put oj (fun cs b => hsel j oj cs b hoj) a oi'.dst v p1
      have wj : ∀ v, Region.wanted oj (yielded ops (a.put oi'.dst v).tmps) = Region.wanted oj (yielded ops a.tmps) := fun v => wanted_put oj a oi'.dst v p1
      have ei : ∀ v, execOp (a.put oj.dst v).eval oi' = execOp a.eval oi' := fun v => execOp_put oi' (fun cs b => hsel i oi' cs b hi) a oj.dst v p3
      have wi : ∀ v, Region.wanted oi' (yielded ops (a.put oj.dst v).tmps) = Region.wanted oi' (yielded ops a.tmps) := fun v => wanted_put oi' a oj.dst v p3
      -- j's part at a state in which i has come up goes over to the state without
      have back : ∀ (vi : Value) (p : World → Prop), GR2 P ops md Le B Sh Φ Rl n L (f + 1) (listed.setIfInBounds i true) (a.put oi'.dst vi) (setF F i p) →
          (Rl j = false ∧ ∃ v, Plain2 P ops B oj v a ∧ GR2 P ops md Le B Sh Φ Rl n L f ((listed.setIfInBounds i true).setIfInBounds j true) ((a.put oi'.dst vi).put oj.dst v) (setF (setF F i p) j (Deps md F oj))) ∨
          (Rl j = true ∧ Told2 P ops md Le B Sh Φ j oj F a ∧ ∀ v, Sh j v → GR2 P ops md Le B Sh Φ Rl n L f ((listed.setIfInBounds i true).setIfInBounds j true) ((a.put oi'.dst vi).put oj.dst v) (setF (setF F i p) j (Known2 Le Φ md F j oj v))) := by
        intro vi p h
        have hD : Deps md (setF F i p) oj = Deps md F oj := funext fun w => propext (deps_set hnot w)
        have hK : ∀ v, Known2 Le Φ md (setF F i p) j oj v = Known2 Le Φ md F j oj v := fun v => by unfold Known2; rw [hD]
        obtain ⟨_, oj', hoj', h2⟩ := h.2 j (ready_mono hj hji)
        obtain rfl : oj' = oj := Option.some.inj (hoj'.symm.trans hoj)
        rcases h2 with ⟨r, v, h3, h4⟩ | ⟨r, h3, h4⟩
        · exact .inl ⟨r, v, h3.same (ej vi).symm (wj vi).symm, by rwa [hD] at h4⟩
        · refine .inr ⟨r, h3.same (ej vi).symm (wj vi).symm (fun w h => by rwa [hD]), fun v hv => ?_⟩
          have := h4 v hv
          rwa [hK] at this
      have hDi : ∀ p, Deps md (setF F j p) oi' = Deps md F oi' := fun p => funext fun w => propext (deps_set hnoti w)
      have hKi : ∀ p v, Known2 Le Φ md (setF F j p) i oi' v = Known2 Le Φ md F i oi' v := fun p v => by unfold Known2; rw [hDi]
      have freej : ∀ k ok, ops[k]? = some ok → k ≠ i → (listed.setIfInBounds j true).getD k true = false → (∀ e ∈ ok.after, Region.binds md e = true → e.on ≠ i) → oi'.apart ops ok = true := fun k ok hk hki hunk hno => by
        refine hfree k ok hk hki ?_ hno
        by_cases hjk : j = k
        · subst hjk; exact (mem_ready.1 hj).1
        · rw [getD_set_ne true hjk] at hunk; exact hunk
      refine ⟨oj, hoj, ?_⟩
      -- what i asks, behind j
      have go : ∀ (vj : Value) (p : World → Prop),
          ((Rl i = false ∧ ∃ v, Plain2 P ops B oi' v a ∧ GR2 P ops md Le B Sh Φ Rl n L f ((listed.setIfInBounds i true).setIfInBounds j true) ((a.put oi'.dst v).put oj.dst vj) (setF (setF F i (Deps md F oi')) j p)) ∨
            (Rl i = true ∧ Told2 P ops md Le B Sh Φ i oi' F a ∧ ∀ v, Sh i v → GR2 P ops md Le B Sh Φ Rl n L f ((listed.setIfInBounds i true).setIfInBounds j true) ((a.put oi'.dst v).put oj.dst vj) (setF (setF F i (Known2 Le Φ md F i oi' v)) j p))) →
          GR2 P ops md Le B Sh Φ Rl n L (f + 1) (listed.setIfInBounds j true) (a.put oj.dst vj) (setF F j p) := by
        intro vj p h
        refine ih _ _ _ (hI _ _ hinv hj hjn) freej (ready_mono hr (Ne.symm hji)) ?_
        rcases h with ⟨r, vi, h3, h4⟩ | ⟨r, h3, h4⟩
        · refine .inl ⟨r, vi, h3.same (ei vj) (wi vj), ?_⟩
          show GR2 P ops md Le B Sh Φ Rl n L f _ _ _
          rw [hDi, Array.setIfInBounds_comm _ _ hji, ← Act.put_comm a vi vj p2, ← setF_comm _ _ (Ne.symm hji)]
          exact h4
        · refine .inr ⟨r, h3.same (ei vj) (wi vj) (fun w h => by rwa [hDi] at h), fun vi hvi => ?_⟩
          rw [hKi]
          show GR2 P ops md Le B Sh Φ Rl n L f _ _ _
          rw [Array.setIfInBounds_comm _ _ hji, ← Act.put_comm a vi vj p2, ← setF_comm _ _ (Ne.symm hji)]
          exact h4 vi hvi
      cases hRj : Rl j with
      | false =>
        refine .inl ⟨rfl, ?_⟩
        rcases H with ⟨r, vi, h3, h4⟩ | ⟨r, h3, h4⟩
        · rcases back vi _ h4 with ⟨_, vj, h5, h6⟩ | ⟨r5, _⟩
          · exact ⟨vj, h5, go vj _ (.inl ⟨r, vi, h3, h6⟩)⟩
          · rw [hRj] at r5; cases r5
        · obtain ⟨v0, hv0⟩ := h3.2.1
          rcases back v0 _ (h4 v0 hv0) with ⟨_, vj, h5, h6⟩ | ⟨r5, _⟩
          · refine ⟨vj, h5, go vj _ (.inr ⟨r, h3, fun vi hvi => ?_⟩)⟩
            rcases back vi _ (h4 vi hvi) with ⟨_, vj', h7, h8⟩ | ⟨r5, _⟩
            · obtain rfl := h5.one hw0 h7
              exact h8
            · rw [hRj] at r5; cases r5
          · rw [hRj] at r5; cases r5
      | true =>
        have hT : Told2 P ops md Le B Sh Φ j oj F a := by
          rcases H with ⟨r, vi, h3, h4⟩ | ⟨r, h3, h4⟩
          · rcases back vi _ h4 with ⟨r5, _⟩ | ⟨_, h5, _⟩
            · rw [hRj] at r5; cases r5
            · exact h5
          · obtain ⟨v0, hv0⟩ := h3.2.1
            rcases back v0 _ (h4 v0 hv0) with ⟨r5, _⟩ | ⟨_, h5, _⟩
            · rw [hRj] at r5; cases r5
            · exact h5
        refine .inr ⟨rfl, hT, fun vj hvj => ?_⟩
        refine go vj _ ?_
        rcases H with ⟨r, vi, h3, h4⟩ | ⟨r, h3, h4⟩
        · rcases back vi _ h4 with ⟨r5, _⟩ | ⟨_, _, h6⟩
          · rw [hRj] at r5; cases r5
          · exact .inl ⟨r, vi, h3, h6 vj hvj⟩
        · refine .inr ⟨r, h3, fun vi hvi => ?_⟩
          rcases back vi _ (h4 vi hvi) with ⟨r5, _⟩ | ⟨_, _, h6⟩
          · rw [hRj] at r5; cases r5
          · exact h6 vj hvj
variable (P md ops Le B Sh Φ Rl) in
/-- the operations of a list from number k on, in the order of the text; then L -/
def RelAll2 (L : Act → Facts → Prop) : Nat → List Oper → Act → Facts → Prop
  | _, [], a, F => L a F
  | k, o :: l, a, F =>
    (Rl k = false ∧ ∃ v, Plain2 P ops B o v a ∧ RelAll2 L (k + 1) l (a.put o.dst v) (setF F k (Deps md F o))) ∨
    (Rl k = true ∧ Told2 P ops md Le B Sh Φ k o F a ∧ ∀ v, Sh k v → RelAll2 L (k + 1) l (a.put o.dst v) (setF F k (Known2 Le Φ md F k o v)))
theorem rel_to_GR2 {n : Nat} {L : Array Bool → Act → Facts → Prop} {Lq : Act → Facts → Prop} (hw0 : ∃ j w, B j w) (hsel : Region.noSelect ops = true)
    (I : Array Bool → Prop) (hI : ∀ listed j, I listed → j ∈ Region.ready md ops listed → j < n → I (listed.setIfInBounds j true))
    (hwait : ∀ listed i, I listed → i < n → listed.getD i true = false → ∀ j ∈ Region.ready md ops listed, j < n) (hdone : ∀ listed a F, L listed a F → ∀ j ∈ Region.ready md ops listed, n ≤ j)
    (chk : Nat → Nat → Array Bool → Bool) (hchk : ∀ f k listed, chk (f + 1) k listed = true → (Region.ready md ops listed).contains k = true ∧ Region.free md ops listed k = true ∧ chk f (k + 1) (listed.setIfInBounds k true) = true)
    (hend : ∀ k listed a F, k = n → chk 0 k listed = true → Lq a F → L listed a F) :
    ∀ (l : List Oper) (k : Nat) (listed : Array Bool) (a : Act) (F : Facts), (∀ j, j < l.length → l[j]? = ops[k + j]?) → k + l.length = n → I listed → chk l.length k listed = true →
    RelAll2 P ops md Le B Sh Φ Rl Lq k l a F → GR2 P ops md Le B Sh Φ Rl n L l.length listed a F
  | [], k, listed, a, F, _, hk, _, hB, h => hend k listed a F (by simpa using hk) (by simpa using hB) h
  | o :: l, k, listed, a, F, hl, hk, inv, hB, h => by
    have h0 : ops[k]? = some o := by simpa using (hl 0 (by simp)).symm
    obtain ⟨hr, hf, hB'⟩ := hchk l.length k listed (by simpa using hB)
    have hkn : k < n := by simp only [List.length_cons] at hk; omega
    have hr' : k ∈ Region.ready md ops listed := by simpa using hr
    have hl' : ∀ j, j < l.length → l[j]? = ops[k + 1 + j]? := fun j hj => by have := hl (j + 1) (by simp; omega); simpa [Nat.add_assoc, Nat.add_comm 1 j] using this
    have hk' : k + 1 + l.length = n := by simp only [List.length_cons] at hk; omega
    refine GR2.first hw0 h0 (Region.noSelect_spec hsel) I hI (fun listed hi hun j hj => hwait listed k hi hkn hun j hj) hkn hdone l.length listed a F inv (Region.free_spec h0 hf) hr' ?_
    rcases h with ⟨r, v, h1, h2⟩ | ⟨r, h1, h2⟩
    · exact .inl ⟨r, v, h1, rel_to_GR2 hw0 hsel I hI hwait hdone chk hchk hend l (k + 1) _ _ _ hl' hk' (hI _ _ inv hr' hkn) hB' h2⟩
    · exact .inr ⟨r, h1, fun v hv => rel_to_GR2 hw0 hsel I hI hwait hdone chk hchk hend l (k + 1) _ _ _ hl' hk' (hI _ _ inv hr' hkn) hB' (h2 v hv)⟩
theorem RelAll2.weaker {L : Act → Facts → Prop} (hL : ∀ a F F', (∀ d w, F d w → F' d w) → L a F' → L a F) : ∀ (l : List Oper) (k : Nat) (a : Act) (F F' : Facts), (∀ d w, F d w → F' d w) → RelAll2 P ops md Le B Sh Φ Rl L k l a F' → RelAll2 P ops md Le B Sh Φ Rl L k l a F
  | [], _, a, F, F', hF, h => hL a F F' hF h
  | o :: l, k, a, F, F', hF, h => by
    have hD : ∀ w, Deps md F o w → Deps md F' o w := fun w hd e he hb => hF _ _ (hd e he hb)
    have hK : ∀ v w, Known2 Le Φ md F k o v w → Known2 Le Φ md F' k o v w := fun v w h => ⟨hD w h.1, h.2⟩
    have hset : ∀ p p' : World → Prop, (∀ w, p w → p' w) → ∀ d w, setF F k p d w → setF F' k p' d w := fun p p' hp d w h => by
      unfold setF at *; split
      · rename_i e; rw [if_pos e] at h; exact hp w h
      · rename_i e; rw [if_neg e] at h; exact hF _ _ h
    rcases h with ⟨r, v, h1, h2⟩ | ⟨r, h1, h2⟩
    · exact .inl ⟨r, v, h1, RelAll2.weaker hL l _ _ _ _ (hset _ _ hD) h2⟩
    · exact .inr ⟨r, h1.same rfl rfl hD, fun v hv => RelAll2.weaker hL l _ _ _ _ (hset _ _ (hK v)) (h2 v hv)⟩
end
/-- the told ones by number: their shapes, and what holds of them -/
abbrev Tell2 := List (Nat × (Value → Prop) × (Value → World → Prop))
def Tell2.is (T : Tell2) (i : Nat) : Bool := T.any (·.1 == i)
def Tell2.sh (T : Tell2) (i : Nat) (v : Value) : Prop := ∀ x ∈ T, x.1 = i → x.2.1 v
def Tell2.at_ (T : Tell2) (i : Nat) (v : Value) (w : World) : Prop := ∀ x ∈ T, x.1 = i → x.2.2 v w
/-- only block g may be another -/
abbrev LeG (g : Nat) (w w' : World) : Prop := GrownS w w' (fun k => k = g)
/-- a later world in which the reader may be asked j times more -/
def BG (t : TypeId) (g K : Nat) (w : World) (j : Nat) (w' : World) : Prop := LeG g w w' ∧ ∃ M, M + j ≤ K ∧ Rdr t w' g M
section
variable {P : Program} {ops : Array Oper} {md : Region.Mode}
theorem rel2_tail_b {t : TypeId} {g N : Nat} {id : Nat} {Q : Exit → Act → World → Prop} {a : Act} {w : World} {l : List Oper} (n : Nat) (T : Tell2) (hr : Rdr t w g N) (hm : P.follows .mixedOrders = true) (hB : Region.lexTailB .any l.toArray n = true)
    (h : RelAll2 P l.toArray .any (LeG g) (BG t g (N + n) w) T.sh T.at_ T.is (fun a' F => ∀ w', LeG g w w' → Rdr t w' g (N + n) → (∀ d, F d w') → wpList P l.toArray Q (l.drop n) a' w') 0 (l.take n) a (fun _ _ => True)) : (Code.region id l.toArray true).wp P Q a w := by
  simp only [Region.lexTailB, Bool.and_eq_true, decide_eq_true_eq] at hB
  obtain ⟨⟨⟨⟨hsel, hn⟩, hs⟩, hc⟩, hlex⟩ := hB
  have hn' : n < l.length := by simpa using hn
  have htl : (l.take n).length = n := by simp; omega
  have hdl : (l.drop n).length = l.toArray.size - n := by simp
  have inv0 : HeadInv .any l.toArray n (Array.replicate l.toArray.size false) :=
    ⟨by simp, fun j oj _ hl => (by rw [getD_replicate_false] at hl; cases hl), fun t _ ht => getD_in (by simpa using ht) (getD_replicate_false _ _)⟩
  have b0 : BG t g (N + n) w n w.drew := ⟨gr_drew (GrownS.refl _ _), N, Nat.le_refl _, hr.d⟩
  have H := rel_to_GR2 (Le := LeG g) (B := BG t g (N + n) w) (n := n) (L := fun listed a F => Region.seqB .any l.toArray (l.toArray.size - n) n listed = true ∧ ∀ w', LeG g w w' → Rdr t w' g (N + n) → (∀ d, F d w') → wpList P l.toArray Q (l.drop n) a w') (Lq := fun a' F => ∀ w', LeG g w w' → Rdr t w' g (N + n) → (∀ d, F d w') → wpList P l.toArray Q (l.drop n) a' w')
    ⟨_, _, b0⟩ hsel (HeadInv .any l.toArray n) (fun _ _ hi hj hjn => hi.set hj hjn)
    (fun listed i hi hin hun j hj => by
      rcases Nat.lt_or_ge j n with h2 | h2
      · exact h2
      · exact absurd hj (tail_waits hs hc hn hi _ i rfl hin hun j h2)) (fun listed a F hL => seqB_ready hL.1)
    (Region.lexHead .any l.toArray (l.toArray.size - n)) (fun f k listed h => by simp only [Region.lexHead, Bool.and_eq_true] at h; exact ⟨h.1.1, h.1.2, h.2⟩) (fun k listed a F hk h hq => ⟨by subst hk; simpa [Region.lexHead] using h, hq⟩)
    (l.take n) 0 (Array.replicate l.toArray.size false) a (fun _ _ => True) (fun j hj => by
      have hj' : j < n := by rw [htl] at hj; exact hj
      simp [hj']) (by simpa using htl) inv0 (by rw [htl]; exact hlex) h
  refine wp_region_any hm ?_
  have := GR2.any (Le := LeG g) (B := BG t g (N + n) w) (Q := Q) (g := l.toArray.size - n) (fun _ _ _ h1 h2 => GrownS.trans h1 h2) (fun a => GrownS.refl a _) (fun j w' ⟨h1, M, h2, h3⟩ => ⟨h1, M, by omega, h3⟩) (fun listed a' F w' hL hb hF => by
    obtain ⟨h1, M, h2, h3⟩ := hb
    have := wpAny_of_seq (md := .any) (Q' := Q) (l.drop n) n listed a' w' (fun j => by simp [List.getElem?_drop]) (by rw [hdl]; exact hL.1) (hL.2 w' h1 (h3.up (by omega)) hF)
    rwa [hdl] at this) _ _ _ _ _ (fun _ _ _ _ _ => trivial) H (by rw [htl]; exact b0) (fun _ => trivial)
  rw [htl, show n + (l.toArray.size - n) = l.toArray.size by omega] at this
  exact this
/-! the steps of a walk -/
variable {t : TypeId} {g K : Nat} {T : Tell2} {w : World} {k : Nat} {o : Oper} {l : List Oper} {a : Act} {F : Facts}
theorem rel2_plain {L : World → Act → Prop} (v : Value) (hR : T.is k = false) (hF : ∀ w, F k w) (hg : Region.wanted o (yielded ops a.tmps) = true) (h : ∀ w', LeG g w w' → (execOp a.eval o).run P w' = .ok (.value v) w')
    (hl : RelAll2 P ops md (LeG g) (BG t g K w) T.sh T.at_ T.is (fun a' F => ∀ w', LeG g w w' → Rdr t w' g K → (∀ d, F d w') → L w' a') (k + 1) l (a.put o.dst v) F) : RelAll2 P ops md (LeG g) (BG t g K w) T.sh T.at_ T.is (fun a' F => ∀ w', LeG g w w' → Rdr t w' g K → (∀ d, F d w') → L w' a') k (o :: l) a F :=
  .inl ⟨hR, v, .inl ⟨hg, fun j w hb => h w hb.1⟩, RelAll2.weaker (fun a F F' hF h w' hb hr hd => h w' hb hr fun d => hF d w' (hd d)) _ _ _ _ _ (fun d w hd => by
    unfold setF at hd; split at hd
    · rename_i e; subst e; exact hF w
    · exact hd) hl⟩
theorem rel2_deps {L : World → Act → Prop} (v : Value) (hR : T.is k = false) (hg : Region.wanted o (yielded ops a.tmps) = true) (h : ∀ w', LeG g w w' → (execOp a.eval o).run P w' = .ok (.value v) w')
    (hl : RelAll2 P ops md (LeG g) (BG t g K w) T.sh T.at_ T.is (fun a' F => ∀ w', LeG g w w' → Rdr t w' g K → (∀ d, F d w') → L w' a') (k + 1) l (a.put o.dst v) (setF F k (Deps md F o))) : RelAll2 P ops md (LeG g) (BG t g K w) T.sh T.at_ T.is (fun a' F => ∀ w', LeG g w w' → Rdr t w' g K → (∀ d, F d w') → L w' a') k (o :: l) a F :=
  .inl ⟨hR, v, .inl ⟨hg, fun j w hb => h w hb.1⟩, hl⟩
theorem rel2_told {L : World → Act → Prop} (hR : T.is k = true) (hg : Region.wanted o (yielded ops a.tmps) = true) (hs : ∃ v, T.sh k v) (h : ∀ w' M, LeG g w w' → Rdr t w' g M → M + 1 ≤ K → Deps md F o w' → Ran2 (LeG g) P (fun v w'' => (T.sh k v ∧ T.at_ k v w'') ∧ Rdr t w'' g (M + 1)) w' ((execOp a.eval o).run P w'))
    (hl : ∀ v, T.sh k v → RelAll2 P ops md (LeG g) (BG t g K w) T.sh T.at_ T.is (fun a' F => ∀ w', LeG g w w' → Rdr t w' g K → (∀ d, F d w') → L w' a') (k + 1) l (a.put o.dst v) (setF F k (Known2 (LeG g) T.at_ md F k o v))) : RelAll2 P ops md (LeG g) (BG t g K w) T.sh T.at_ T.is (fun a' F => ∀ w', LeG g w w' → Rdr t w' g K → (∀ d, F d w') → L w' a') k (o :: l) a F :=
  .inr ⟨hR, ⟨hg, hs, fun j w1 hb hd => by
    obtain ⟨h1, M, h2, h3⟩ := hb
    have := h w1 M h1 h3 (by omega) hd
    generalize (execOp a.eval o).run P w1 = r at *
    match r, this with
    | .ok (.value u) w', h4 => exact ⟨h4.1, h4.2.1.1, ⟨h1.trans h4.1, M + 1, by omega, h4.2.2⟩, h4.2.1.2⟩
    | .ok (.enter f args) w', h4 => exact Calls.mono h4 fun e w'' ⟨v, he, hl, hφ⟩ => ⟨v, he, hl, hφ.1.1, ⟨h1.trans hl, M + 1, by omega, hφ.2⟩, hφ.1.2⟩⟩, hl⟩
theorem rel2_nil {L : World → Act → Prop} (h : ∀ w', LeG g w w' → Rdr t w' g K → (∀ d, F d w') → L w' a) : RelAll2 P ops md (LeG g) (BG t g K w) T.sh T.at_ T.is (fun a' F => ∀ w', LeG g w w' → Rdr t w' g K → (∀ d, F d w') → L w' a') k [] a F := h
end
def Tell2.look (T : Tell2) (i : Nat) : Option ((Value → Prop) × (Value → World → Prop)) := (T.find? (·.1 == i)).map (·.2)
theorem Tell2.outs {T : Tell2} {i : Nat} {s : Value → Prop} {φ : Value → World → Prop} {v : Value} (h : T.sh i v) (hl : T.look i = some (s, φ)) : s v := by
  obtain ⟨x, hx, e⟩ := Option.map_eq_some_iff.1 hl
  have := h x (List.mem_of_find?_eq_some hx) (by simpa using List.find?_some hx)
  rw [e] at this; exact this
theorem Tell2.outf {T : Tell2} {i : Nat} {s : Value → Prop} {φ : Value → World → Prop} {v : Value} {w : World} (h : T.at_ i v w) (hl : T.look i = some (s, φ)) : φ v w := by
  obtain ⟨x, hx, e⟩ := Option.map_eq_some_iff.1 hl
  have := h x (List.mem_of_find?_eq_some hx) (by simpa using List.find?_some hx)
  rw [e] at this; exact this
theorem Tell2.hits {T : Tell2} {k : Nat} {s : Value → Prop} {φ : Value → World → Prop} {v : Value} (hT : T.is k = false) (h : s v) : Tell2.sh ((k, s, φ) :: T) k v := fun x hx he => by
  rcases List.mem_cons.1 hx with rfl | hx
  · exact h
  · have := List.any_eq_false.1 hT x hx
    simp [he] at this
theorem Tell2.skips {T : Tell2} {j k : Nat} {s : Value → Prop} {φ : Value → World → Prop} {v : Value} (hj : (j == k) = false) (h : T.sh k v) : Tell2.sh ((j, s, φ) :: T) k v := fun x hx he => by
  rcases List.mem_cons.1 hx with rfl | hx
  · simp only [beq_eq_false_iff_ne, ne_eq] at hj
    exact absurd he hj
  · exact h x hx he
theorem Tell2.hit {T : Tell2} {k : Nat} {s : Value → Prop} {φ : Value → World → Prop} {v : Value} {w : World} (hT : T.is k = false) (h : s v ∧ φ v w) : Tell2.sh ((k, s, φ) :: T) k v ∧ Tell2.at_ ((k, s, φ) :: T) k v w :=
  ⟨Tell2.hits hT h.1, fun x hx he => by
    rcases List.mem_cons.1 hx with rfl | hx
    · exact h.2
    · have := List.any_eq_false.1 hT x hx
      simp [he] at this⟩
theorem Tell2.skip {T : Tell2} {j k : Nat} {s : Value → Prop} {φ : Value → World → Prop} {v : Value} {w : World} (hj : (j == k) = false) (h : T.sh k v ∧ T.at_ k v w) : Tell2.sh ((j, s, φ) :: T) k v ∧ Tell2.at_ ((j, s, φ) :: T) k v w :=
  ⟨Tell2.skips hj h.1, fun x hx he => by
    rcases List.mem_cons.1 hx with rfl | hx
    · simp only [beq_eq_false_iff_ne, ne_eq] at hj
      exact absurd he hj
    · exact h.2 x hx he⟩
theorem Known2.out {g : Nat} {T : Tell2} {md : Region.Mode} {F : Facts} {i : Nat} {o : Oper} {v : Value} {w : World} {s : Value → Prop} {φ : Value → World → Prop} (h : Known2 (LeG g) T.at_ md F i o v w) (hl : T.look i = some (s, φ)) : ∃ w0, LeG g w0 w ∧ φ v w0 := by
  obtain ⟨_, w0, h1, h2⟩ := h
  exact ⟨w0, h1, Tell2.outf h2 hl⟩
/-! whole numbers and short arrays, as they are told -/
def IsInt (v : Value) : Prop := ∃ z, v = .int .i64 z
def IsPick (n : Int) (v : Value) : Prop := ∃ z, v = .int .i64 z ∧ 0 ≤ z ∧ (z < n ∨ z = 0)
def IsArr (n : Nat) (v : Value) : Prop := ∃ b, v = .slice (some ⟨b, 0, none⟩) n n
def NoFact (_ : Value) (_ : World) : Prop := True
def ArrIn (g n : Nat) (v : Value) (W : World) : Prop := ∃ b cs e, v = .slice (some ⟨b, 0, none⟩) n n ∧ Blk W b cs e ∧ b ≠ g ∧ ∀ i, i < n → ∃ z, cs[i]? = some (.int .i64 z)
theorem ArrIn.mk3 {g : Nat} {W : World} {e : TypeId} {a b c : Int} (h : W.heap.size ≠ g) : ArrIn g 3 (.slice (some ⟨W.heap.size, 0, none⟩) 3 3) (W.alloc (.cells #[.int .i64 a, .int .i64 b, .int .i64 c] e)) :=
  ⟨_, _, _, rfl, Blk.new _ _ _, h, fun i hi => by match i, hi with | 0, _ => exact ⟨_, rfl⟩ | 1, _ => exact ⟨_, rfl⟩ | 2, _ => exact ⟨_, rfl⟩⟩
theorem ArrIn.mk4 {g : Nat} {W : World} {e : TypeId} {a b c d : Int} (h : W.heap.size ≠ g) : ArrIn g 4 (.slice (some ⟨W.heap.size, 0, none⟩) 4 4) (W.alloc (.cells #[.int .i64 a, .int .i64 b, .int .i64 c, .int .i64 d] e)) :=
  ⟨_, _, _, rfl, Blk.new _ _ _, h, fun i hi => by match i, hi with | 0, _ => exact ⟨_, rfl⟩ | 1, _ => exact ⟨_, rfl⟩ | 2, _ => exact ⟨_, rfl⟩ | 3, _ => exact ⟨_, rfl⟩⟩
theorem ArrIn.mk5 {g : Nat} {W : World} {e : TypeId} {a b c d f : Int} (h : W.heap.size ≠ g) : ArrIn g 5 (.slice (some ⟨W.heap.size, 0, none⟩) 5 5) (W.alloc (.cells #[.int .i64 a, .int .i64 b, .int .i64 c, .int .i64 d, .int .i64 f] e)) :=
  ⟨_, _, _, rfl, Blk.new _ _ _, h, fun i hi => by match i, hi with | 0, _ => exact ⟨_, rfl⟩ | 1, _ => exact ⟨_, rfl⟩ | 2, _ => exact ⟨_, rfl⟩ | 3, _ => exact ⟨_, rfl⟩ | 4, _ => exact ⟨_, rfl⟩⟩
theorem ArrIn.at_ {g n b : Nat} {W W0 : World} (h : ArrIn g n (.slice (some ⟨b, 0, none⟩) n n) W0) (hl : LeG g W0 W) (i : Nat) (hi : i < n) : ∃ z, W.cell? ⟨b, i, none⟩ = some (.int .i64 z) := by
  obtain ⟨b', cs, e, h1, h2, h3, h4⟩ := h
  injection h1 with h1
  injection h1 with h1
  injection h1 with h1
  subst h1
  obtain ⟨z, hz⟩ := h4 i hi
  exact ⟨z, by rw [(h2.g1 hl h3).cells.1 i]; exact hz⟩
theorem pk_lt {v n : Int} (h : v < n ∨ v = 0) (h0 : 0 < n) : v < n := by omega
end Go.Proofs.Ytpeojnknfonmlaa
