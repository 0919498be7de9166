/- What is drawn: lemmas for a path spoilt. -/
import Derived.Test.YtpeojnknfonmlaaRC
import Derived.Test.YtpeojnknfonmlaaHB
import Derived.Test.YtpeojnknfonmlaaJ7
set_option linter.unusedVariables false
set_option linter.unusedSimpArgs false
namespace Go.Proofs.Ytpeojnknfonmlaa
open Go.RowKit
def lenOf : Option Value → Nat
  | some (.slice _ n _) => n
  | _ => 0
theorem flat_take {α : Type} {enc : α → List Value} {sz : Nat} (E : EncOk enc sz) : ∀ (xs : List α) (k : Nat), (xs.flatMap enc).take (k * sz) = (xs.take k).flatMap enc
  | [], k => by simp
  | x :: xs, 0 => by simp
  | x :: xs, k + 1 => by
    have hx := E.len x
    rw [List.flatMap_cons, List.take_succ_cons, List.flatMap_cons, List.take_append, ← flat_take E xs k, hx, show (k + 1) * sz - sz = k * sz by rw [Nat.succ_mul]; omega]
    congr 1
    rw [List.take_of_length_le (by rw [hx, Nat.succ_mul]; omega)]
/-- the first ones of a row of one's own -/
theorem Own.take {α : Type} {enc : α → List Value} {sz bytes e n c k : Nat} {w : World} {A : Option Addr} {xs : List α} (h : Own enc sz bytes e w (.slice A n c) xs) (E : EncOk enc sz) (hn : xs.length = n) (hk : k ≤ n) : Own enc sz bytes e w (.slice A k c) (xs.take k) := by
  have hl : (xs.take k).length = k := by simp; omega
  refine ⟨⟨?_, ?_⟩, by rw [hl]; exact Nat.le_trans (Nat.mul_le_mul_right _ (by omega)) h.room⟩
  · rw [flat_len E]
  · rw [hl]
    rcases h.row.2 with ⟨h1, h2⟩ | ⟨g, cap, cur, h1, h2, h3, h4, h5, h6, h7⟩
    · injection h1 with a b d; subst a d
      exact .inl ⟨by rw [show k = 0 by omega], by omega⟩
    · injection h1 with a b d; subst a d
      refine .inr ⟨g, c, cur, rfl, h2, h3, by omega, h5, h6, ?_⟩
      rw [← flat_take E, ← h7, List.take_take]
      congr 1
      rw [Nat.min_eq_left (Nat.mul_le_mul_right _ (by omega))]
section
variable {w W W' : World} {g R bp N M : Nat} {q s fr by_ : Int} {sv : Value} {xs : List LL.Step}
theorem PSt.pQ (h : PSt w g R bp q s sv xs fr by_ N W) (u : Int) : PSt w g R bp u s sv xs fr by_ N (W.setCell ⟨bp, 0, none⟩ (.int .i64 u)) := by
  have h1 := h.lt
  have hz := h.gr.size
  exact ⟨gr_s1 h.gr (by omega) 0 _, h.rd.s1 (by omega) 0 _, h.kR.s (by simp only [ne_eq]; omega) _, by simpa using h.kP.put 0 (.int .i64 u), h.row.s _ (h.row.neB2 h.kP (by decide)), h.fr, h.lt⟩
theorem PSt.pF (h : PSt w g R bp q s sv xs fr by_ N W) (u : Int) : PSt w g R bp q s sv xs u by_ N (W.setCell ⟨bp, 3, none⟩ (.int .i64 u)) := by
  have h1 := h.lt
  exact ⟨gr_s1 h.gr (by omega) 3 _, h.rd.s1 (by omega) 3 _, h.kR.s (by simp only [ne_eq]; omega) _, by simpa using h.kP.put 3 (.int .i64 u), h.row.s _ (h.row.neB2 h.kP (by decide)), h.fr, h.lt⟩
theorem PSt.pB (h : PSt w g R bp q s sv xs fr by_ N W) (u : Int) : PSt w g R bp q s sv xs fr u N (W.setCell ⟨bp, 4, none⟩ (.int .i64 u)) := by
  have h1 := h.lt
  exact ⟨gr_s1 h.gr (by omega) 4 _, h.rd.s1 (by omega) 4 _, h.kR.s (by simp only [ne_eq]; omega) _, by simpa using h.kP.put 4 (.int .i64 u), h.row.s _ (h.row.neB2 h.kP (by decide)), h.fr, h.lt⟩
theorem PSt.pT {A : Option Addr} {c k : Nat} (h : PSt w g R bp q s (.slice A xs.length c) xs fr by_ N W) (hk : k ≤ xs.length) : PSt w g R bp q s (.slice A k c) (xs.take k) fr by_ N (W.setCell ⟨bp, 2, none⟩ (.slice A k c)) := by
  have h1 := h.lt
  have hO := h.row.take stepE rfl hk
  have hn : ∀ j, (Value.slice A k c).ownBlock = some j → j ≠ bp := by
    have := h.row.neB2 h.kP (by decide)
    cases A with
    | none => intro j hj; simp [Value.ownBlock] at hj
    | some a => exact this
  have hf : ∀ j, (Value.slice A k c).ownBlock = some j → w.heap.size ≤ j := by
    have := h.fr
    cases A with
    | none => intro j hj; simp [Value.ownBlock] at hj
    | some a => exact this
  exact ⟨gr_s1 h.gr (by omega) 2 _, h.rd.s1 (by omega) 2 _, h.kR.s (by simp only [ne_eq]; omega) _, by simpa using h.kP.put 2 (.slice A k c), hO.s _ hn, hf, h.lt⟩
theorem PSt.pR {a c k j : Nat} {u : Value} {x : LL.Step} (h : PSt w g R bp q s (.slice (some ⟨a, 0, none⟩) xs.length c) xs fr by_ N W) (hk : k < xs.length) (hj : j < 7) (hx : stepC x = (stepC (xs.getD k LL.z0)).set j u) : PSt w g R bp q s (.slice (some ⟨a, 0, none⟩) (xs.set k x).length c) (xs.set k x) fr by_ N (W.setCell ⟨a, k * 7 + j, none⟩ u) := by
  have h1 := h.lt
  have n1 := h.row.neB2 h.kP (by decide) a rfl
  have n2 := h.row.neB2 h.kR (by decide) a rfl
  have n3 := h.fr a rfl
  rw [List.length_set]
  exact ⟨gr_s1 h.gr n3 _ _, h.rd.s1 (by omega) _ _, h.kR.s (by simp only [ne_eq]; omega) _, h.kP.s (by simp only [ne_eq]; omega) _, h.row.setSt rfl k hk j hj hx, fun j hj => h.fr j hj, h.lt⟩
theorem PSt.bl (h : PSt w g R bp q s sv xs fr by_ N W) (hb : Below W.heap.size W W') : PSt w g R bp q s sv xs fr by_ N W' :=
  ⟨gr_b h.gr hb, h.rd.b hb, h.kR.b hb, h.kP.b hb, h.row.b hb, h.fr, h.lt⟩
/-- what is left of a path that is drawn: some path -/
def PF (w : World) (g R bp N : Nat) (W : World) : Prop := ∃ (q s : Int) (A : Option Addr) (c : Nat) (xs : List LL.Step) (fr by_ : Int), xs.length ≤ 60 ∧ PSt w g R bp q s (.slice A xs.length c) xs fr by_ N W
theorem PSt.pf {A : Option Addr} {c : Nat} (h : PSt w g R bp q s (.slice A xs.length c) xs fr by_ N W) (hl : xs.length ≤ 60) (hN : N ≤ M) : PF w g R bp M W := ⟨q, s, A, c, xs, fr, by_, hl, h.up hN⟩
theorem PF.dr (h : PF w g R bp N W) : PF w g R bp N W.drew := by
  obtain ⟨q, s, A, c, xs, fr, by_, hl, h⟩ := h
  exact ⟨q, s, A, c, xs, fr, by_, hl, h.dr⟩
theorem PSt.pR6 {a c k j : Nat} {u : Int} (h : PSt w g R bp q s (.slice (some ⟨a, 0, none⟩) xs.length c) xs fr by_ N W) (hk : k < xs.length) (hj : j < 6) (hl : xs.length ≤ 60) (hN : N ≤ M) : PF w g R bp M (W.setCell ⟨a, k * 7 + j, none⟩ (.int .i64 u)) := by
  have hl' : ∀ x, (xs.set k x).length ≤ 60 := fun x => by rw [List.length_set]; exact hl
  generalize hz : xs.getD k LL.z0 = z
  match j, hj with
  | 0, _ => exact (h.pR (x := ⟨u, z.y, z.lo, z.hi, z.fr, z.by_, z.hold⟩) hk (j := 0) (by omega) (by rw [hz]; rfl)).pf (hl' _) hN
  | 1, _ => exact (h.pR (x := ⟨z.x, u, z.lo, z.hi, z.fr, z.by_, z.hold⟩) hk (j := 1) (by omega) (by rw [hz]; rfl)).pf (hl' _) hN
  | 2, _ => exact (h.pR (x := ⟨z.x, z.y, u, z.hi, z.fr, z.by_, z.hold⟩) hk (j := 2) (by omega) (by rw [hz]; rfl)).pf (hl' _) hN
  | 3, _ => exact (h.pR (x := ⟨z.x, z.y, z.lo, u, z.fr, z.by_, z.hold⟩) hk (j := 3) (by omega) (by rw [hz]; rfl)).pf (hl' _) hN
  | 4, _ => exact (h.pR (x := ⟨z.x, z.y, z.lo, z.hi, u, z.by_, z.hold⟩) hk (j := 4) (by omega) (by rw [hz]; rfl)).pf (hl' _) hN
  | 5, _ => exact (h.pR (x := ⟨z.x, z.y, z.lo, z.hi, z.fr, u, z.hold⟩) hk (j := 5) (by omega) (by rw [hz]; rfl)).pf (hl' _) hN
theorem PSt.pR7 {a c k : Nat} {u : Bool} (h : PSt w g R bp q s (.slice (some ⟨a, 0, none⟩) xs.length c) xs fr by_ N W) (hk : k < xs.length) (hl : xs.length ≤ 60) (hN : N ≤ M) : PF w g R bp M (W.setCell ⟨a, k * 7 + 6, none⟩ (.bool u)) := by
  have hl' : ∀ x, (xs.set k x).length ≤ 60 := fun x => by rw [List.length_set]; exact hl
  generalize hz : xs.getD k LL.z0 = z
  exact (h.pR (x := ⟨z.x, z.y, z.lo, z.hi, z.fr, z.by_, u⟩) hk (j := 6) (by omega) (by rw [hz]; rfl)).pf (hl' _) hN
end
end Go.Proofs.Ytpeojnknfonmlaa
