/- append onto a row of the call's own, the source nil, empty or not. -/
import Derived.Test.YtpeojnknfonmlaaJ1
import Derived.Test.YtpeojnknfonmlaaJ3
import Derived.Test.YtpeojnknfonmlaaJ5
import Derived.Test.YtpeojnknfonmlaaX5
import Derived.Test.YtpeojnknfonmlaaJ6

set_option linter.unusedVariables false
set_option linter.unusedSimpArgs false
namespace Go.Proofs.Ytpeojnknfonmlaa
open Go.RowKit
section
variable {P : Program} {ops : Array Oper} {rest : List Oper} {o : Oper} {a : Act} {Q : Exit → Act → World → Prop} {W : World} {α : Type} {enc : α → List Value} {sz bytes e : Nat}
theorem run_app_nil (base : Nat) (t ty e : TypeId) (i : TypeInfo) (size : Nat) (ht : P.underlying t = some (.slice e)) (hi : P.info? e = some i)
    (v : Value) (n : Nat) (xs : List Value) (hown : W.ownsRow base e size v n xs) (c : Nat) : (Builtin.append_ #[t, t] ty #[v, .slice none 0 c]).run P W = .ok v W := by
  rcases hown.2 with ⟨rfl, rfl⟩ | ⟨g, cap, cur, rfl, _, _, hnc, _⟩
  · simp [Builtin.append_, run_underlying ht, sizeOf, typeInfo, hi, Builtin.lenOf, Builtin.firstCells]
  · simp [Builtin.append_, run_underlying ht, sizeOf, typeInfo, hi, Builtin.lenOf, Builtin.firstCells, hnc, storeCells]
/-- append(s, x...), whatever x's address is -/
theorem wp_appA (hgd : o.guard = none) (s x : Operand) (t : TypeId) (ho : o.op = .call { callee := .builtin .append, args := #[s, x], argTypes := #[t, t] }) (E : EncOk enc sz) (z : Value) (ht : P.underlying t = some (.slice e))
    (hinfo : (P.info? e).map (fun i => (i.zero, i.size, i.bytes)) = some (some z, sz, bytes)) (hz : z.cells.size = sz) (hb0 : 0 < bytes) {v : Value} {xs ys : List α} (hs : a.eval s = v) (HO : Own enc sz bytes e W v xs) {A : Option Addr} {m c : Nat} (hx : a.eval x = .slice A m c)
    (hR : Rd enc sz bytes W A m c ys) (hr : (xs.length + m) * bytes ≤ 140737488351232)
    (h : ∀ v' w1, Own enc sz bytes e w1 v' (xs ++ ys) → W.grownBy w1 v.ownBlock → (v'.ownBlock = v.ownBlock ∨ v'.ownBlock = some W.heap.size) → wpList P ops Q rest (a.put o.dst v') w1) : wpList P ops Q (o :: rest) a W := by
  rcases Nat.eq_zero_or_pos m with h0 | h0
  · subst h0
    obtain rfl : ys = [] := List.eq_nil_of_length_eq_zero hR.len
    have HO' : Own enc sz bytes e W v (xs ++ []) := by rw [List.append_nil]; exact HO
    rcases A with _ | ad
    · refine wpList_plain hgd fun K hK => ?_
      obtain ⟨i, hi, h1, h2, h3⟩ := info_parts hinfo
      unfold Oper.wp execOp
      simp only [ho, resolve, invoke, builtin, Sem.run_bind, Sem.run_pure, Result.andThen_ok, List.map_toArray, List.map_cons, List.map_nil, hs, hx, run_app_nil 0 t o.type e i sz ht hi v _ _ HO.row c]
      exact hK _ _ (h v W HO' (World.grownBy.refl W _) (.inl rfl))
    · obtain ⟨i, hi, h1, h2, h3⟩ := info_parts hinfo
      have hn : xs.length ≤ 140737488351232 := Nat.le_trans (Nat.le_mul_of_pos_right _ hb0) (by simpa using hr)
      refine wpList_append_own_at W hgd s x t ho 0 e i z sz bytes ht hi h1 h2 h3 hz E.pos v xs.length (xs.flatMap enc) hs HO.row ad 0 c [] hx (by simp) (by simp) (by simp) (by simp only [maxLen]; omega) (by simpa using Nat.le_trans hr (by decide)) (Nat.zero_le _) ?_
      intro v' w' hrow hg _ hat
      refine h v' w' ⟨?_, ?_⟩ hg hat
      · simpa using hrow
      · simpa using hr
  · obtain ⟨b, off, rfl, _⟩ := hR.addr h0
    exact wp_app hgd s x t ho E z ht hinfo hz hb0 hs HO hx hR hr h
/-- append([]T{}, x...): only new memory -/
theorem run_app_fresh (t ty : TypeId) (E : EncOk enc sz) (z : Value) (ht : P.underlying t = some (.slice e)) (hinfo : (P.info? e).map (fun i => (i.zero, i.size, i.bytes)) = some (some z, sz, bytes)) (hz : z.cells.size = sz) (hb0 : 0 < bytes)
    {g : Nat} (HO : Own enc sz bytes e W (.slice (some ⟨g, 0, none⟩) 0 0) ([] : List α)) {A : Option Addr} {m c : Nat} {ys : List α} (hR : Rd enc sz bytes W A m c ys) :
    ∃ v' w', (Builtin.append_ #[t, t] ty #[.slice (some ⟨g, 0, none⟩) 0 0, .slice A m c]).run P W = .ok v' w' ∧ Own enc sz bytes e w' v' ys ∧ Below W.heap.size W w' ∧ (v'.ownBlock = some g ∨ v'.ownBlock = some W.heap.size) := by
  obtain ⟨i, hi, h1, h2, h3⟩ := info_parts hinfo
  have hr := hR.room
  rcases Nat.eq_zero_or_pos m with h0 | h0
  · subst h0
    obtain rfl : ys = [] := List.eq_nil_of_length_eq_zero hR.len
    refine ⟨_, W, ?_, HO, Below.refl _ _, .inl rfl⟩
    rcases A with _ | ad
    · exact run_app_nil 0 t ty e i sz ht hi _ _ _ HO.row c
    · simp [Builtin.append_, run_underlying ht, sizeOf, typeInfo, hi, Builtin.lenOf, Builtin.firstCells, loadCells, loadCellsFrom, storeCells]
  · obtain ⟨b, off, rfl, _⟩ := hR.addr h0
    have hl := hR.len
    have hm : m ≤ 140737488351232 := Nat.le_trans (Nat.le_mul_of_pos_right _ hb0) hr
    have hrun := run_append_grow (P := P) W t ty e i z ht hi h1 ⟨g, 0, none⟩ 0 0 [] (by simp) (by simp) ⟨b, off, none⟩ m c (ys.flatMap enc) (by rw [flat_len E, hl, h2]) (fun j u hu => by rw [addr_add]; exact hR.flat E j u hu) (by omega) (by omega) (growslice_fits (by omega) (by rw [h3, Nat.zero_add]; omega))
    simp only [Nat.zero_add] at hrun
    refine ⟨_, _, hrun, ⟨⟨by rw [flat_len E], .inr ⟨W.heap.size, grownCap W m 0 e, _, by rw [hl], Nat.zero_le _, heap_alloc_new W.drew _, by rw [hl]; exact grownCap_ge W m 0 e, grownCap_le_maxLen W m 0 e (by simp only [maxLen]; omega), ?_, ?_⟩⟩, by rw [hl]; exact hr⟩, ⟨rfl, rfl, rfl, by simp, fun k hk => heap_alloc_old W.drew _ hk⟩, .inr rfl⟩
    · have hge := grownCap_ge W m 0 e
      simp only [Array.size_append, List.size_toArray, size_zeroCells, hz, flat_len E, hl, List.length_nil, Nat.zero_add, ← Nat.add_mul]
      congr 1
      omega
    · simp only [Array.toList_append, List.nil_append]
      rw [← flat_len E]
      exact List.take_left
end
end Go.Proofs.Ytpeojnknfonmlaa

/- Copies of paths. -/
set_option linter.unusedVariables false
set_option linter.unusedSimpArgs false
namespace Go.Proofs.Ytpeojnknfonmlaa
open Go.RowKit
attribute [local go_sem] w_lt_add w_le_of w_le_add max2_i min2_i
set_option maxHeartbeats 4000000 in
theorem impl_copyPath_c (p : LL.Path) (A : Option Addr) (c : Nat) (w : World) (h : RdS w A p.steps.length c p.steps) : Calls Try.prog 71 #[.agg #[.int .i64 p.q, .int .i64 p.s, .slice A p.steps.length c, .int .i64 p.fr, .int .i64 p.by_]] w (MkP 79 w p) := by
  have hroom := h.room
  go_enter Try.func71, Try.ntmps71
  go_wp2_with (at_builtin; go_loud (refine wp_appA (bytes := 56) (e := 79) rfl _ _ _ rfl stepE (.agg (stepC LL.z0).toArray) Try.underlying41 (by kernel_rfl) rfl (by decide) (v := .slice (some ⟨w.heap.size + 1 + 1, 0, none⟩) 0 0) (xs := []) rfl (Own.made' (by simp)) rfl (h.mono (by repeat' (first | with_reducible exact Below.refl _ _ | with_reducible assumption | with_reducible refine b_alloc ?_ _ | with_reducible refine b_drewN ?_ _ | with_reducible refine b_drew ?_ | with_reducible refine b_set ?_ (by first | (simp only [World.size_setCell, World.size_alloc, World.size_drew]; omega) | (simp; done) | (simp; omega)) _ | with_reducible refine b_step ?_ (by with_reducible assumption)))) (by simpa using hroom) ?_; intro v7 w7 hO7 hg7 hat7; rw [List.nil_append] at hO7; obtain ⟨A7, c7, rfl, -⟩ := hO7.rd stepE; have hz7 := hg7.size; simp only [World.size_alloc] at hz7; have hb7 : Below w.heap.size w w7 := b_grown' (w := w) (by repeat' (first | with_reducible exact Below.refl _ _ | with_reducible assumption | with_reducible refine b_alloc ?_ _ | with_reducible refine b_drewN ?_ _ | with_reducible refine b_drew ?_ | with_reducible refine b_set ?_ (by first | (simp only [World.size_setCell, World.size_alloc, World.size_drew]; omega) | (simp; done) | (simp; omega)) _ | with_reducible refine b_step ?_ (by with_reducible assumption))) hg7 (by simp only [World.size_alloc]; omega) (fun g' hg' => by simp [Value.ownBlock] at hg'; omega); have hge7 : ∀ k, Value.ownBlock (.slice A7 p.steps.length c7) = some k → w.heap.size + 1 + 1 ≤ k := (fun k hk => by rcases hat7 with e | e <;> (rw [e] at hk; simp [Value.ownBlock] at hk; omega)); have kP7 := (((Blk.new w #[.int .i64 p.q, .int .i64 p.s, .slice A p.steps.length c, .int .i64 p.fr, .int .i64 p.by_] 43).a _).a _).grown hg7 (by simp [Value.ownBlock]; omega); have kR7 := ((Blk.new (w.alloc (.cells #[.int .i64 p.q, .int .i64 p.s, .slice A p.steps.length c, .int .i64 p.fr, .int .i64 p.by_] 43)) #[.int .i64 0, .int .i64 0, .slice none 0 0, .int .i64 0, .int .i64 0] 43).a _).grown hg7 (by simp [Value.ownBlock]); simp only [World.size_alloc] at kR7; obtain ⟨eP, fP, lP⟩ := kP7.cells; obtain ⟨eR, fR, lR⟩ := kR7.cells; clear hat7))
  (refine bodyPost_ret (res_c rfl _ [.int .i64 p.q, .int .i64 p.s, .slice A7 p.steps.length c7, .int .i64 p.fr, .int .i64 p.by_] rfl _ Try.underlying43 rfl (by kernel_rfl) (by simp only [CellsAt, and_true]; and_intros <;> go_simp)) rfl ?_)
  exact ⟨_, rfl, (by repeat' (first | with_reducible assumption | with_reducible refine Own.s_ge ?_ (by with_reducible assumption) (by simp only [World.size_setCell]; omega) _ | with_reducible refine Own.a ?_ _ | with_reducible refine Own.d ?_ | with_reducible refine Own.dN ?_ _ | with_reducible refine Own.b ?_ (by with_reducible assumption))), fun k hk => by have := hge7 k hk; omega, (by repeat' (first | with_reducible exact Below.refl _ _ | with_reducible assumption | with_reducible refine b_alloc ?_ _ | with_reducible refine b_drewN ?_ _ | with_reducible refine b_drew ?_ | with_reducible refine b_set ?_ (by first | (simp only [World.size_setCell, World.size_alloc, World.size_drew]; omega) | (simp; done) | (simp; omega)) _ | with_reducible refine b_step ?_ (by with_reducible assumption)))⟩
set_option maxHeartbeats 4000000 in
theorem spec_l2Copy_c (p : LL.Path) (A : Option Addr) (c : Nat) (w : World) (h : RdS w A p.steps.length c p.steps) : Calls Try.prog 73 #[.agg #[.int .i64 p.q, .int .i64 p.s, .slice A p.steps.length c, .int .i64 p.fr, .int .i64 p.by_]] w (MkP 79 w p) := by
  have hroom := h.room
  go_enter Try.func73, Try.ntmps73
  go_wp2_with (at_builtin; go_loud (refine wp_appA (bytes := 56) (e := 79) rfl _ _ _ rfl stepE (.agg (stepC LL.z0).toArray) Try.underlying41 (by kernel_rfl) rfl (by decide) (v := .slice (some ⟨w.heap.size + 1 + 1, 0, none⟩) 0 0) (xs := []) rfl (Own.made' (by simp)) rfl (h.mono (by repeat' (first | with_reducible exact Below.refl _ _ | with_reducible assumption | with_reducible refine b_alloc ?_ _ | with_reducible refine b_drewN ?_ _ | with_reducible refine b_drew ?_ | with_reducible refine b_set ?_ (by first | (simp only [World.size_setCell, World.size_alloc, World.size_drew]; omega) | (simp; done) | (simp; omega)) _ | with_reducible refine b_step ?_ (by with_reducible assumption)))) (by simpa using hroom) ?_; intro v7 w7 hO7 hg7 hat7; rw [List.nil_append] at hO7; obtain ⟨A7, c7, rfl, -⟩ := hO7.rd stepE; have hz7 := hg7.size; simp only [World.size_alloc] at hz7; have hb7 : Below w.heap.size w w7 := b_grown' (w := w) (by repeat' (first | with_reducible exact Below.refl _ _ | with_reducible assumption | with_reducible refine b_alloc ?_ _ | with_reducible refine b_drewN ?_ _ | with_reducible refine b_drew ?_ | with_reducible refine b_set ?_ (by first | (simp only [World.size_setCell, World.size_alloc, World.size_drew]; omega) | (simp; done) | (simp; omega)) _ | with_reducible refine b_step ?_ (by with_reducible assumption))) hg7 (by simp only [World.size_alloc]; omega) (fun g' hg' => by simp [Value.ownBlock] at hg'; omega); have hge7 : ∀ k, Value.ownBlock (.slice A7 p.steps.length c7) = some k → w.heap.size + 1 + 1 ≤ k := (fun k hk => by rcases hat7 with e | e <;> (rw [e] at hk; simp [Value.ownBlock] at hk; omega)); have kP7 := (((Blk.new w #[.int .i64 p.q, .int .i64 p.s, .slice A p.steps.length c, .int .i64 p.fr, .int .i64 p.by_] 43).a _).a _).grown hg7 (by simp [Value.ownBlock]; omega); have kR7 := ((Blk.new (w.alloc (.cells #[.int .i64 p.q, .int .i64 p.s, .slice A p.steps.length c, .int .i64 p.fr, .int .i64 p.by_] 43)) #[.int .i64 0, .int .i64 0, .slice none 0 0, .int .i64 0, .int .i64 0] 43).a _).grown hg7 (by simp [Value.ownBlock]); simp only [World.size_alloc] at kR7; obtain ⟨eP, fP, lP⟩ := kP7.cells; obtain ⟨eR, fR, lR⟩ := kR7.cells; clear hat7))
  (refine bodyPost_ret (res_c rfl _ [.int .i64 p.q, .int .i64 p.s, .slice A7 p.steps.length c7, .int .i64 p.fr, .int .i64 p.by_] rfl _ Try.underlying43 rfl (by kernel_rfl) (by simp only [CellsAt, and_true]; and_intros <;> go_simp)) rfl ?_)
  exact ⟨_, rfl, (by repeat' (first | with_reducible assumption | with_reducible refine Own.s_ge ?_ (by with_reducible assumption) (by simp only [World.size_setCell]; omega) _ | with_reducible refine Own.a ?_ _ | with_reducible refine Own.d ?_ | with_reducible refine Own.dN ?_ _ | with_reducible refine Own.b ?_ (by with_reducible assumption))), fun k hk => by have := hge7 k hk; omega, (by repeat' (first | with_reducible exact Below.refl _ _ | with_reducible assumption | with_reducible refine b_alloc ?_ _ | with_reducible refine b_drewN ?_ _ | with_reducible refine b_drew ?_ | with_reducible refine b_set ?_ (by first | (simp only [World.size_setCell, World.size_alloc, World.size_drew]; omega) | (simp; done) | (simp; omega)) _ | with_reducible refine b_step ?_ (by with_reducible assumption)))⟩
end Go.Proofs.Ytpeojnknfonmlaa

/- A path with all ticks later by so many. -/
set_option linter.unusedVariables false
set_option linter.unusedSimpArgs false
namespace Go.Proofs.Ytpeojnknfonmlaa
open Go.RowKit
attribute [local go_sem] w_lt_add w_le_of w_le_add max2_i min2_i
namespace LL
def shS (d : Int) (s : Step) : Step := ⟨s.x, s.y, s.lo, s.hi, s.fr + d, s.by_ + d, s.hold⟩
/-- the step that lies at place i of the path that is told later -/
def shF (p : Path) (d : Int) (i : Nat) : Step := shS d (nth p.steps i)
def shP (p : Path) (d : Int) : Path := ⟨p.q, p.s, tab p.steps.length (shF p d), p.fr + d, p.by_ + d⟩
def ShOk (p : Path) (d : Int) : Prop := PathOk p ∧ In d (-10000) 10000 ∧ PathOk (shP p d)
instance (p : Path) (d : Int) : Decidable (ShOk p d) := inferInstanceAs (Decidable (_ ∧ _))
def p0 : Path := ⟨0, 0, [], 0, 0⟩
def shiftM (p : Path) (d : Int) : Path := if ShOk p d then shP p d else p0
theorem shiftM_no {p : Path} {d : Int} (h : ¬ ShOk p d) : shiftM p d = p0 := if_neg h
theorem shiftM_yes {p : Path} {d : Int} (h : ShOk p d) : shiftM p d = shP p d := if_pos h
theorem mix_here {α : Type} (f : Nat → α) (xs : List α) (d : α) (k : Nat) : mix f xs d k k = xs.getD k d := if_neg (Nat.lt_irrefl _)
theorem mix_next {α : Type} (f : Nat → α) (xs : List α) (d : α) (k : Nat) : upd (mix f xs d k) k (f k) = mix f xs d (k + 1) := by
  funext i; unfold upd mix
  by_cases h : i = k
  · subst h; simp
  · rw [if_neg h]
    by_cases h1 : i < k
    · rw [if_pos h1, if_pos (by omega)]
    · rw [if_neg h1, if_neg (by omega)]
end LL
/-- a call has made a path and said whether it is one -/
def MkPB (e : Nat) (w : World) (p : LL.Path) (b : Bool) (en : Ending) (w' : World) : Prop := ∃ v, en = .returned (.tuple #[.agg #[.int .i64 p.q, .int .i64 p.s, v, .int .i64 p.fr, .int .i64 p.by_], .bool b]) ∧ Own stepC 7 56 e w' v p.steps ∧ (∀ k, v.ownBlock = some k → w.heap.size ≤ k) ∧ Below w.heap.size w w'
section
variable {w : World} {e g n c : Nat} {f f' : Nat → LL.Step}
theorem Own.St (h : Own stepC 7 56 e w (.slice (some ⟨g, 0, none⟩) n c) (LL.tab n f)) (k : Nat) (hk : k < n) :
    w.cell? ⟨g, k * 7 + 4, none⟩ = some (.int .i64 (f k).fr) ∧ w.cell? ⟨g, k * 7 + 5, none⟩ = some (.int .i64 (f k).by_) ∧ (∀ j, w.frozen? ⟨g, j, none⟩ = false) ∧ g < w.heap.size := by
  have h2 := (h.rd_at stepE (LL.tab_len _ _)).S7 k hk
  have e1 : LL.nth (LL.tab n f) k = f k := LL.tab_getD hk
  rw [e1, Nat.zero_add] at h2
  obtain ⟨g', cap, e2, _, _, hf⟩ := h.form (by rw [LL.tab_len]; omega)
  have e3 : g = g' := by injection e2 with e2; injection e2 with e2; injection e2
  subst e3
  exact ⟨h2.2.2.2.2.1, h2.2.2.2.2.2.1, fun j => hf _, (h.row.lt _ rfl).2⟩
theorem Own.setSt {xs : List LL.Step} (h : Own stepC 7 56 e w (.slice (some ⟨g, 0, none⟩) n c) xs) (hn : xs.length = n) (k : Nat) (hk : k < n) (j : Nat) {x : Value} {s : LL.Step} (hj : j < 7) (hs : stepC s = (stepC (xs.getD k LL.z0)).set j x) :
    Own stepC 7 56 e (w.setCell ⟨g, k * 7 + j, none⟩ x) (.slice (some ⟨g, 0, none⟩) n c) (xs.set k s) := by
  subst hn
  obtain ⟨hrow, hg⟩ := ownsRow_setCells [x] (k * 7 + j) h.row
  rw [flat_setMany stepE xs k j LL.z0 s [x] hk (by simp; omega) (by
    rw [hs, List.set_eq_take_append_cons_drop, if_pos (by simp [stepC]; omega)]; simp)] at hrow
  exact ⟨by rw [List.length_set]; simpa [World.setCells] using hrow, by rw [List.length_set]; exact h.room⟩
theorem Own.updSt (h : Own stepC 7 56 e w (.slice (some ⟨g, 0, none⟩) n c) (LL.tab n f)) (k : Nat) (hk : k < n) (j : Nat) {x : Value} {s : LL.Step} (hj : j < 7) (hs : stepC s = (stepC (f k)).set j x) (hf : LL.upd f k s = f') :
    Own stepC 7 56 e (w.setCell ⟨g, k * 7 + j, none⟩ x) (.slice (some ⟨g, 0, none⟩) n c) (LL.tab n f') := by
  have := h.setSt (LL.tab_len _ _) k hk j (s := s) hj (by rw [LL.tab_getD hk]; exact hs)
  rw [LL.tab_upd _ _ _ hk, hf] at this
  exact this
end
set_option maxRecDepth 100000 in
set_option maxHeartbeats 4000000 in
theorem impl_FlyShift_c (p : LL.Path) (A : Option Addr) (c : Nat) (d : Int) (w : World) (h : RdS w A p.steps.length c p.steps) : Calls Try.prog 19 #[.agg #[.int .i64 p.q, .int .i64 p.s, .slice A p.steps.length c, .int .i64 p.fr, .int .i64 p.by_], .int .i64 d] w (MkPB 79 w (LL.shiftM p d) (decide (LL.ShOk p d))) := by
  have hroom := h.room
  by_cases hP : LL.PathOk p
  · by_cases hD : LL.In d (-10000) 10000
    · have hn0 : 0 < p.steps.length := by have := hP.2.1.1; omega
      have hn1 : p.steps.length ≤ 40 := by have := hP.2.1.2; omega
      have hOk : decide (LL.PathOk p) = true := decide_eq_true hP
      go_enter Try.func19, Try.ntmps19
      go_wp2_with fail
      refine calls_name (fun W => Below w.heap.size w W ∧ Blk W w.heap.size #[.int .i64 p.q, .int .i64 p.s, .slice A p.steps.length c, .int .i64 p.fr, .int .i64 p.by_] 43 ∧ Blk W (w.heap.size + 1) #[.int .i64 0, .int .i64 0, .slice none 0 0, .int .i64 0, .int .i64 0] 43) ⟨(by repeat' (first | with_reducible exact Below.refl _ _ | with_reducible assumption | with_reducible refine b_alloc ?_ _ | with_reducible refine b_drewN ?_ _ | with_reducible refine b_drew ?_ | with_reducible refine b_set ?_ (by first | (simp only [World.size_setCell, World.size_alloc, World.size_drew]; omega) | (simp; done) | (simp; omega)) _ | with_reducible refine b_step ?_ (by with_reducible assumption))), (by repeat' (first | with_reducible assumption | with_reducible exact Blk.new _ _ _ | with_reducible exact Blk.new' _ _ (by first | (simp only [World.size_alloc, World.size_setCell, World.size_drew]; done) | (simp only [World.size_alloc, World.size_setCell, World.size_drew]; omega) | omega) | with_reducible refine Blk.a ?_ _ | with_reducible refine Blk.d ?_ | with_reducible refine Blk.dN ?_ _ | with_reducible refine Blk.s ?_ (by simp only [ne_eq]; omega) _ | with_reducible refine Blk.b ?_ (by with_reducible assumption))), (by repeat' (first | with_reducible assumption | with_reducible exact Blk.new _ _ _ | with_reducible exact Blk.new' _ _ (by first | (simp only [World.size_alloc, World.size_setCell, World.size_drew]; done) | (simp only [World.size_alloc, World.size_setCell, World.size_drew]; omega) | omega) | with_reducible refine Blk.a ?_ _ | with_reducible refine Blk.d ?_ | with_reducible refine Blk.dN ?_ _ | with_reducible refine Blk.s ?_ (by simp only [ne_eq]; omega) _ | with_reducible refine Blk.b ?_ (by with_reducible assumption)))⟩ ?_
      rintro W1 ⟨hb, kP, kR⟩
      refine (impl_FlyPathOk_c p A c _ (h.mono hb)).mono ?_
      rintro e W2 ⟨rfl, hB⟩
      replace hb := b_step hb hB
      replace kP := kP.b hB
      replace kR := kR.b hB
      clear hB
      rw [hOk]
      obtain ⟨eP, fP, lP⟩ := kP.cells
      obtain ⟨eR, fR, lR⟩ := kR.cells
      go_wp2_with (go_at_call 70; refine (impl_in_c _ _ _ _).mono ?_; rintro e w' ⟨rfl, rfl⟩)
      refine calls_name (fun W => Below W2.heap.size W2 W) (by repeat' (first | with_reducible exact Below.refl _ _ | with_reducible assumption | with_reducible refine b_alloc ?_ _ | with_reducible refine b_drewN ?_ _ | with_reducible refine b_drew ?_ | with_reducible refine b_set ?_ (by first | (simp only [World.size_setCell, World.size_alloc, World.size_drew]; omega) | (simp; done) | (simp; omega)) _ | with_reducible refine b_step ?_ (by with_reducible assumption))) ?_
      intro W3 hE
      replace hb := b_step hb hE
      replace kP := kP.b hE
      replace kR := kR.b hE
      clear hE eP fP lP eR fR lR
      refine (impl_copyPath_c p A c _ (h.mono hb)).mono ?_
      intro e W4 hM
      obtain ⟨A2, c2, rfl, hO, hOg, hB⟩ := hM.gop
      have hO2 : ∀ k, Value.ownBlock (.slice A2 p.steps.length c2) = some k → w.heap.size + 1 < k := fun k hk => by have := hOg k hk; have := kR.cells.2.2; omega
      replace hb := b_step hb hB
      replace kP := kP.b hB
      replace kR := kR.b hB
      clear hB hM hOg
      obtain ⟨eP, fP, lP⟩ := kP.cells
      go_wp2_with fail
      refine wp_name (fun W => Below w.heap.size w W ∧ Blk W w.heap.size #[.int .i64 p.q, .int .i64 p.s, .slice A2 p.steps.length c2, .int .i64 p.fr, .int .i64 p.by_] 43 ∧ Blk W (w.heap.size + 1) #[.int .i64 0, .int .i64 0, .slice none 0 0, .int .i64 0, .int .i64 0] 43 ∧ Own stepC 7 56 79 W (.slice A2 p.steps.length c2) (LL.tab p.steps.length (LL.mix (LL.shF p d) p.steps LL.z0 0))) ⟨(by repeat' (first | with_reducible exact Below.refl _ _ | with_reducible assumption | with_reducible refine b_alloc ?_ _ | with_reducible refine b_drewN ?_ _ | with_reducible refine b_drew ?_ | with_reducible refine b_set ?_ (by first | (simp only [World.size_setCell, World.size_alloc, World.size_drew]; omega) | (simp; done) | (simp; omega)) _ | with_reducible refine b_step ?_ (by with_reducible assumption))), by simpa using ((((kP.put 0 (.int .i64 p.q)).put 1 (.int .i64 p.s)).put 2 (.slice A2 p.steps.length c2)).put 3 (.int .i64 p.fr)).put 4 (.int .i64 p.by_), (by repeat' (first | with_reducible assumption | with_reducible exact Blk.new _ _ _ | with_reducible exact Blk.new' _ _ (by first | (simp only [World.size_alloc, World.size_setCell, World.size_drew]; done) | (simp only [World.size_alloc, World.size_setCell, World.size_drew]; omega) | omega) | with_reducible refine Blk.a ?_ _ | with_reducible refine Blk.d ?_ | with_reducible refine Blk.dN ?_ _ | with_reducible refine Blk.s ?_ (by simp only [ne_eq]; omega) _ | with_reducible refine Blk.b ?_ (by with_reducible assumption))), by rw [LL.mix_zero]; exact ((((hO.s _ (fun k hk => by have := hO2 k hk; simp only; omega)).s _ (fun k hk => by have := hO2 k hk; simp only; omega)).s _ (fun k hk => by have := hO2 k hk; simp only; omega)).s _ (fun k hk => by have := hO2 k hk; simp only; omega)).s _ (fun k hk => by have := hO2 k hk; simp only; omega)⟩ ?_
      clear hb kP kR hO eP fP lP
      rintro W5 ⟨hb, kP, kR, hO⟩
      go_loopw [21] (fun i wr => ∃ k : Nat, k ≤ p.steps.length ∧ i = .int .i64 k ∧ Below w.heap.size w wr ∧ Blk wr w.heap.size #[.int .i64 p.q, .int .i64 p.s, .slice A2 p.steps.length c2, .int .i64 p.fr, .int .i64 p.by_] 43 ∧ Blk wr (w.heap.size + 1) #[.int .i64 0, .int .i64 0, .slice none 0 0, .int .i64 0, .int .i64 0] 43 ∧ Own stepC 7 56 79 wr (.slice A2 p.steps.length c2) (LL.tab p.steps.length (LL.mix (LL.shF p d) p.steps LL.z0 k))) (fun i _ => p.steps.length - (intOf i).toNat)
      case atStart => exact ⟨0, Nat.zero_le _, rfl, hb, kP, kR, hO⟩
      case round =>
        clear hb kP kR hO
        obtain ⟨k, hk, rfl, hb, kP, kR, hO⟩ := hrel
        obtain ⟨eP, fP, lP⟩ := kP.cells
        by_cases hlt : k < p.steps.length
        · obtain ⟨g, rfl⟩ := hO.someA (by rw [LL.tab_len]; omega)
          have hgl := hO2 g rfl
          have hSt := hO.St k hlt
          rw [LL.mix_here] at hSt
          obtain ⟨c4, c5, f0, gl⟩ := hSt
          have hw := (hP.2.2.2.2.2 k hlt).1
          obtain ⟨_, _, _, _, _, w0, w1, w2⟩ := hw
          simp only [LL.nth] at w0 w1 w2
          obtain ⟨hd0, hd1⟩ := hD
          generalize hs : p.steps.getD k LL.z0 = s at c4 c5 w0 w1 w2
          have Hs := Lib.hid hs
          clear hs
          go_wp2_with fail
          go_roundw
          case rel =>
            have hs := Hs.out
            refine ⟨k + 1, by omega, by go_num, b_set (b_set hb (by simp only; omega) _) (by simp only; omega) _, (kP.s (by simp only [ne_eq]; omega) _).s (by simp only [ne_eq]; omega) _, (kR.s (by simp only [ne_eq]; omega) _).s (by simp only [ne_eq]; omega) _, ?_⟩
            have H1 := hO.updSt k hlt 4 (x := .int .i64 (s.fr + d)) (s := ⟨s.x, s.y, s.lo, s.hi, s.fr + d, s.by_, s.hold⟩) (by omega) (by rw [LL.mix_here, hs]; rfl) rfl
            have H2 := H1.updSt k hlt 5 (x := .int .i64 (s.by_ + d)) (s := LL.shF p d k) (by omega) (by rw [LL.upd_same]; simp only [LL.shF, LL.shS, LL.nth, hs]; rfl) (by rw [LL.upd_upd, LL.mix_next])
            exact H2
          case measure => simp [intOf]; omega
        · obtain rfl : k = p.steps.length := by omega
          rw [LL.mix_all] at hO
          have HP0 := Lib.hid hP
          obtain ⟨_, _, v0, v1, v2, _⟩ := hP
          obtain ⟨hd0, hd1⟩ := hD
          go_wp2_with fail
          refine calls_name (fun W => Below w.heap.size w W ∧ Blk W w.heap.size #[.int .i64 p.q, .int .i64 p.s, .slice A2 p.steps.length c2, .int .i64 (p.fr + d), .int .i64 (p.by_ + d)] 43 ∧ Blk W (w.heap.size + 1) #[.int .i64 0, .int .i64 0, .slice none 0 0, .int .i64 0, .int .i64 0] 43 ∧ Own stepC 7 56 79 W (.slice A2 p.steps.length c2) (LL.tab p.steps.length (LL.shF p d))) ⟨(by repeat' (first | with_reducible exact Below.refl _ _ | with_reducible assumption | with_reducible refine b_alloc ?_ _ | with_reducible refine b_drewN ?_ _ | with_reducible refine b_drew ?_ | with_reducible refine b_set ?_ (by first | (simp only [World.size_setCell, World.size_alloc, World.size_drew]; omega) | (simp; done) | (simp; omega)) _ | with_reducible refine b_step ?_ (by with_reducible assumption))), by simpa using (kP.put 3 (.int .i64 (p.fr + d))).put 4 (.int .i64 (p.by_ + d)), (by repeat' (first | with_reducible assumption | with_reducible exact Blk.new _ _ _ | with_reducible exact Blk.new' _ _ (by first | (simp only [World.size_alloc, World.size_setCell, World.size_drew]; done) | (simp only [World.size_alloc, World.size_setCell, World.size_drew]; omega) | omega) | with_reducible refine Blk.a ?_ _ | with_reducible refine Blk.d ?_ | with_reducible refine Blk.dN ?_ _ | with_reducible refine Blk.s ?_ (by simp only [ne_eq]; omega) _ | with_reducible refine Blk.b ?_ (by with_reducible assumption))), (hO.s _ (fun k hk => by have := hO2 k hk; simp only; omega)).s _ (fun k hk => by have := hO2 k hk; simp only; omega)⟩ ?_
          clear hb kP kR hO eP fP lP
          rintro W6 ⟨hb, kP, kR, hO⟩
          have hl : (LL.shP p d).steps.length = p.steps.length := LL.tab_len _ _
          have HC := impl_FlyPathOk_c (LL.shP p d) A2 c2 W6 (by rw [hl]; exact hO.rd_at' stepE)
          rw [hl] at HC
          refine HC.mono ?_
          clear HC
          rintro e W7 ⟨rfl, hB⟩
          replace hb := b_step hb hB
          replace kP := kP.b hB
          replace kR := kR.b hB
          replace hO := hO.b hB
          clear hB
          obtain ⟨eP, fP, lP⟩ := kP.cells
          obtain ⟨eR, fR, lR⟩ := kR.cells
          by_cases hQ : LL.PathOk (LL.shP p d)
          · rw [decide_eq_true hQ]
            go_wp2_with fail
            (refine bodyPost_ret (res_ct rfl _ [.int .i64 p.q, .int .i64 p.s, .slice A2 p.steps.length c2, .int .i64 (p.fr + d), .int .i64 (p.by_ + d)] rfl _ rfl _ Try.underlying43 rfl (by kernel_rfl) (by simp only [CellsAt, and_true]; and_intros <;> go_simp)) rfl ?_)
            have hS : LL.ShOk p d := ⟨HP0.out, ⟨hd0, hd1⟩, hQ⟩
            rw [LL.shiftM_yes hS, decide_eq_true hS]
            exact ⟨_, rfl, ((((hO.s _ (fun k hk => by have := hO2 k hk; simp only; omega)).s _ (fun k hk => by have := hO2 k hk; simp only; omega)).s _ (fun k hk => by have := hO2 k hk; simp only; omega)).s _ (fun k hk => by have := hO2 k hk; simp only; omega)).s _ (fun k hk => by have := hO2 k hk; simp only; omega), fun k hk => by have := hO2 k hk; omega, (by repeat' (first | with_reducible exact Below.refl _ _ | with_reducible assumption | with_reducible refine b_alloc ?_ _ | with_reducible refine b_drewN ?_ _ | with_reducible refine b_drew ?_ | with_reducible refine b_set ?_ (by first | (simp only [World.size_setCell, World.size_alloc, World.size_drew]; omega) | (simp; done) | (simp; omega)) _ | with_reducible refine b_step ?_ (by with_reducible assumption)))⟩
          · rw [decide_eq_false hQ]
            go_wp2_with fail
            (refine bodyPost_ret (res_ct rfl _ [.int .i64 0, .int .i64 0, .slice none 0 0, .int .i64 0, .int .i64 0] rfl _ rfl _ Try.underlying43 rfl (by kernel_rfl) (by simp only [CellsAt, and_true]; and_intros <;> go_simp)) rfl ?_)
            have hS : ¬ LL.ShOk p d := fun hS => hQ hS.2.2
            rw [LL.shiftM_no hS, decide_eq_false hS]
            exact ⟨_, rfl, ⟨World.ownsRow_nil _ _ _ _, by simp [LL.p0]⟩, fun k hk => by simp [Value.ownBlock] at hk, (by repeat' (first | with_reducible exact Below.refl _ _ | with_reducible assumption | with_reducible refine b_alloc ?_ _ | with_reducible refine b_drewN ?_ _ | with_reducible refine b_drew ?_ | with_reducible refine b_set ?_ (by first | (simp only [World.size_setCell, World.size_alloc, World.size_drew]; omega) | (simp; done) | (simp; omega)) _ | with_reducible refine b_step ?_ (by with_reducible assumption)))⟩
    · go_enter Try.func19, Try.ntmps19
      go_wp2_with fail
      refine calls_name (fun W => Below w.heap.size w W ∧ Blk W w.heap.size #[.int .i64 p.q, .int .i64 p.s, .slice A p.steps.length c, .int .i64 p.fr, .int .i64 p.by_] 43 ∧ Blk W (w.heap.size + 1) #[.int .i64 0, .int .i64 0, .slice none 0 0, .int .i64 0, .int .i64 0] 43) ⟨(by repeat' (first | with_reducible exact Below.refl _ _ | with_reducible assumption | with_reducible refine b_alloc ?_ _ | with_reducible refine b_drewN ?_ _ | with_reducible refine b_drew ?_ | with_reducible refine b_set ?_ (by first | (simp only [World.size_setCell, World.size_alloc, World.size_drew]; omega) | (simp; done) | (simp; omega)) _ | with_reducible refine b_step ?_ (by with_reducible assumption))), (by repeat' (first | with_reducible assumption | with_reducible exact Blk.new _ _ _ | with_reducible exact Blk.new' _ _ (by first | (simp only [World.size_alloc, World.size_setCell, World.size_drew]; done) | (simp only [World.size_alloc, World.size_setCell, World.size_drew]; omega) | omega) | with_reducible refine Blk.a ?_ _ | with_reducible refine Blk.d ?_ | with_reducible refine Blk.dN ?_ _ | with_reducible refine Blk.s ?_ (by simp only [ne_eq]; omega) _ | with_reducible refine Blk.b ?_ (by with_reducible assumption))), (by repeat' (first | with_reducible assumption | with_reducible exact Blk.new _ _ _ | with_reducible exact Blk.new' _ _ (by first | (simp only [World.size_alloc, World.size_setCell, World.size_drew]; done) | (simp only [World.size_alloc, World.size_setCell, World.size_drew]; omega) | omega) | with_reducible refine Blk.a ?_ _ | with_reducible refine Blk.d ?_ | with_reducible refine Blk.dN ?_ _ | with_reducible refine Blk.s ?_ (by simp only [ne_eq]; omega) _ | with_reducible refine Blk.b ?_ (by with_reducible assumption)))⟩ ?_
      rintro W1 ⟨hb, kP, kR⟩
      refine (impl_FlyPathOk_c p A c _ (h.mono hb)).mono ?_
      rintro e W2 ⟨rfl, hB⟩
      replace hb := b_step hb hB
      replace kP := kP.b hB
      replace kR := kR.b hB
      clear hB
      rw [decide_eq_true hP]
      obtain ⟨eP, fP, lP⟩ := kP.cells
      obtain ⟨eR, fR, lR⟩ := kR.cells
      go_wp2_with (go_at_call 70; refine (impl_in_c _ _ _ _).mono ?_; rintro e w' ⟨rfl, rfl⟩)
      (refine bodyPost_ret (res_ct rfl _ [.int .i64 0, .int .i64 0, .slice none 0 0, .int .i64 0, .int .i64 0] rfl _ rfl _ Try.underlying43 rfl (by kernel_rfl) (by simp only [CellsAt, and_true]; and_intros <;> go_simp)) rfl ?_)
      have hS : ¬ LL.ShOk p d := fun hS => hD hS.2.1
      rw [LL.shiftM_no hS, decide_eq_false hS]
      exact ⟨_, rfl, ⟨World.ownsRow_nil _ _ _ _, by simp [LL.p0]⟩, fun k hk => by simp [Value.ownBlock] at hk, (by repeat' (first | with_reducible exact Below.refl _ _ | with_reducible assumption | with_reducible refine b_alloc ?_ _ | with_reducible refine b_drewN ?_ _ | with_reducible refine b_drew ?_ | with_reducible refine b_set ?_ (by first | (simp only [World.size_setCell, World.size_alloc, World.size_drew]; omega) | (simp; done) | (simp; omega)) _ | with_reducible refine b_step ?_ (by with_reducible assumption)))⟩
  · go_enter Try.func19, Try.ntmps19
    go_wp2_with fail
    refine calls_name (fun W => Below w.heap.size w W ∧ Blk W w.heap.size #[.int .i64 p.q, .int .i64 p.s, .slice A p.steps.length c, .int .i64 p.fr, .int .i64 p.by_] 43 ∧ Blk W (w.heap.size + 1) #[.int .i64 0, .int .i64 0, .slice none 0 0, .int .i64 0, .int .i64 0] 43) ⟨(by repeat' (first | with_reducible exact Below.refl _ _ | with_reducible assumption | with_reducible refine b_alloc ?_ _ | with_reducible refine b_drewN ?_ _ | with_reducible refine b_drew ?_ | with_reducible refine b_set ?_ (by first | (simp only [World.size_setCell, World.size_alloc, World.size_drew]; omega) | (simp; done) | (simp; omega)) _ | with_reducible refine b_step ?_ (by with_reducible assumption))), (by repeat' (first | with_reducible assumption | with_reducible exact Blk.new _ _ _ | with_reducible exact Blk.new' _ _ (by first | (simp only [World.size_alloc, World.size_setCell, World.size_drew]; done) | (simp only [World.size_alloc, World.size_setCell, World.size_drew]; omega) | omega) | with_reducible refine Blk.a ?_ _ | with_reducible refine Blk.d ?_ | with_reducible refine Blk.dN ?_ _ | with_reducible refine Blk.s ?_ (by simp only [ne_eq]; omega) _ | with_reducible refine Blk.b ?_ (by with_reducible assumption))), (by repeat' (first | with_reducible assumption | with_reducible exact Blk.new _ _ _ | with_reducible exact Blk.new' _ _ (by first | (simp only [World.size_alloc, World.size_setCell, World.size_drew]; done) | (simp only [World.size_alloc, World.size_setCell, World.size_drew]; omega) | omega) | with_reducible refine Blk.a ?_ _ | with_reducible refine Blk.d ?_ | with_reducible refine Blk.dN ?_ _ | with_reducible refine Blk.s ?_ (by simp only [ne_eq]; omega) _ | with_reducible refine Blk.b ?_ (by with_reducible assumption)))⟩ ?_
    rintro W1 ⟨hb, kP, kR⟩
    refine (impl_FlyPathOk_c p A c _ (h.mono hb)).mono ?_
    rintro e W2 ⟨rfl, hB⟩
    replace hb := b_step hb hB
    replace kP := kP.b hB
    replace kR := kR.b hB
    clear hB
    rw [decide_eq_false hP]
    obtain ⟨eP, fP, lP⟩ := kP.cells
    obtain ⟨eR, fR, lR⟩ := kR.cells
    go_wp2_with fail
    (refine bodyPost_ret (res_ct rfl _ [.int .i64 0, .int .i64 0, .slice none 0 0, .int .i64 0, .int .i64 0] rfl _ rfl _ Try.underlying43 rfl (by kernel_rfl) (by simp only [CellsAt, and_true]; and_intros <;> go_simp)) rfl ?_)
    have hS : ¬ LL.ShOk p d := fun hS => hP hS.1
    rw [LL.shiftM_no hS, decide_eq_false hS]
    exact ⟨_, rfl, ⟨World.ownsRow_nil _ _ _ _, by simp [LL.p0]⟩, fun k hk => by simp [Value.ownBlock] at hk, (by repeat' (first | with_reducible exact Below.refl _ _ | with_reducible assumption | with_reducible refine b_alloc ?_ _ | with_reducible refine b_drewN ?_ _ | with_reducible refine b_drew ?_ | with_reducible refine b_set ?_ (by first | (simp only [World.size_setCell, World.size_alloc, World.size_drew]; omega) | (simp; done) | (simp; omega)) _ | with_reducible refine b_step ?_ (by with_reducible assumption)))⟩
end Go.Proofs.Ytpeojnknfonmlaa

/- A path with all ticks later by so many: the reference's. -/
set_option linter.unusedVariables false
set_option linter.unusedSimpArgs false
namespace Go.Proofs.Ytpeojnknfonmlaa
open Go.RowKit
attribute [local go_sem] w_lt_add w_le_of w_le_add max2_i min2_i
theorem MkPB.gop2 {e : Nat} {w w' : World} {p : LL.Path} {b : Bool} {en : Ending} (h : MkPB e w p b en w') : ∃ A c, en = .returned (.tuple #[.agg #[.int .i64 p.q, .int .i64 p.s, .slice A p.steps.length c, .int .i64 p.fr, .int .i64 p.by_], .bool b]) ∧ Own stepC 7 56 e w' (.slice A p.steps.length c) p.steps ∧ (∀ k, Value.ownBlock (.slice A p.steps.length c) = some k → w.heap.size ≤ k) ∧ Below w.heap.size w w' := by
  obtain ⟨v, rfl, hO, hg, hb⟩ := h
  obtain ⟨A, c, rfl, _⟩ := hO.rd stepE
  exact ⟨A, c, rfl, hO, hg, hb⟩
theorem MkPB.none {e : Nat} {w w' : World} (hb : Below w.heap.size w w') : MkPB e w LL.p0 false (.returned (.tuple #[.agg #[.int .i64 0, .int .i64 0, .slice none 0 0, .int .i64 0, .int .i64 0], .bool false])) w' :=
  ⟨_, rfl, ⟨World.ownsRow_nil _ _ _ _, by simp [LL.p0]⟩, fun k hk => by simp [Value.ownBlock] at hk, hb⟩
set_option maxRecDepth 100000 in
set_option maxHeartbeats 4000000 in
theorem spec_FlyShift_c (p : LL.Path) (A : Option Addr) (c : Nat) (d : Int) (w : World) (h : RdS w A p.steps.length c p.steps) : Calls Try.prog 20 #[.agg #[.int .i64 p.q, .int .i64 p.s, .slice A p.steps.length c, .int .i64 p.fr, .int .i64 p.by_], .int .i64 d] w (MkPB 79 w (LL.shiftM p d) (decide (LL.ShOk p d))) := by
  have hroom := h.room
  by_cases hP : LL.PathOk p
  · by_cases hD : LL.In d (-10000) 10000
    · have hn0 : 0 < p.steps.length := by have := hP.2.1.1; omega
      have hn1 : p.steps.length ≤ 40 := by have := hP.2.1.2; omega
      have hOk : decide (LL.PathOk p) = true := decide_eq_true hP
      go_enter Try.func20, Try.ntmps20
      go_wp2_with fail
      refine calls_name (fun W => Below w.heap.size w W ∧ Blk W w.heap.size #[.int .i64 p.q, .int .i64 p.s, .slice A p.steps.length c, .int .i64 p.fr, .int .i64 p.by_] 43 ∧ Blk W (w.heap.size + 1) #[.int .i64 0, .int .i64 0, .slice none 0 0, .int .i64 0, .int .i64 0] 43) ⟨(by repeat' (first | with_reducible exact Below.refl _ _ | with_reducible assumption | with_reducible refine b_alloc ?_ _ | with_reducible refine b_drewN ?_ _ | with_reducible refine b_drew ?_ | with_reducible refine b_set ?_ (by first | (simp only [World.size_setCell, World.size_alloc, World.size_drew]; omega) | (simp; done) | (simp; omega)) _ | with_reducible refine b_step ?_ (by with_reducible assumption))), (by repeat' (first | with_reducible assumption | with_reducible exact Blk.new _ _ _ | with_reducible exact Blk.new' _ _ (by first | (simp only [World.size_alloc, World.size_setCell, World.size_drew]; done) | (simp only [World.size_alloc, World.size_setCell, World.size_drew]; omega) | omega) | with_reducible refine Blk.a ?_ _ | with_reducible refine Blk.d ?_ | with_reducible refine Blk.dN ?_ _ | with_reducible refine Blk.s ?_ (by simp only [ne_eq]; omega) _ | with_reducible refine Blk.b ?_ (by with_reducible assumption))), (by repeat' (first | with_reducible assumption | with_reducible exact Blk.new _ _ _ | with_reducible exact Blk.new' _ _ (by first | (simp only [World.size_alloc, World.size_setCell, World.size_drew]; done) | (simp only [World.size_alloc, World.size_setCell, World.size_drew]; omega) | omega) | with_reducible refine Blk.a ?_ _ | with_reducible refine Blk.d ?_ | with_reducible refine Blk.dN ?_ _ | with_reducible refine Blk.s ?_ (by simp only [ne_eq]; omega) _ | with_reducible refine Blk.b ?_ (by with_reducible assumption)))⟩ ?_
      rintro W1 ⟨hb, kP, kR⟩
      refine (spec_FlyPathOk_c p A c _ (h.mono hb)).mono ?_
      rintro e W2 ⟨rfl, hB⟩
      replace hb := b_step hb hB; replace kP := kP.b hB; replace kR := kR.b hB; clear hB
      rw [hOk]
      obtain ⟨ekP, fkP, lkP⟩ := kP.cells; obtain ⟨ekR, fkR, lkR⟩ := kR.cells
      go_wp2_with (go_at_call 72; refine (spec_l1In_c _ _ _ _).mono ?_; rintro e w' ⟨rfl, rfl⟩)
      refine calls_name (fun W => Below W2.heap.size W2 W) (by repeat' (first | with_reducible exact Below.refl _ _ | with_reducible assumption | with_reducible refine b_alloc ?_ _ | with_reducible refine b_drewN ?_ _ | with_reducible refine b_drew ?_ | with_reducible refine b_set ?_ (by first | (simp only [World.size_setCell, World.size_alloc, World.size_drew]; omega) | (simp; done) | (simp; omega)) _ | with_reducible refine b_step ?_ (by with_reducible assumption))) ?_; intro W3 hE; clear ekP fkP lkP ekR fkR lkR; replace hb := b_step hb hE; replace kP := kP.b hE; replace kR := kR.b hE; clear hE
      refine (spec_l2Copy_c p A c _ (h.mono hb)).mono ?_
      intro e W4 hM
      obtain ⟨A2, c2, rfl, hO, hOg, hB⟩ := hM.gop
      have hO2 : ∀ k, Value.ownBlock (.slice A2 p.steps.length c2) = some k → w.heap.size + 1 < k := fun k hk => by have := hOg k hk; have := kR.cells.2.2; omega
      have hO3 : ∀ k, Value.ownBlock (.slice A2 p.steps.length c2) = some k → k < W4.heap.size := fun k hk => (hO.row.lt k hk).2
      replace hb := b_step hb hB; replace kP := kP.b hB; replace kR := kR.b hB; clear hB
      have hX0 : w.heap.size + 1 < W4.heap.size := kR.cells.2.2
      clear hM hOg
      go_wp2_with fail
      refine wp_name (fun W => Below w.heap.size w W ∧ Blk W (w.heap.size + 1) #[.int .i64 0, .int .i64 0, .slice none 0 0, .int .i64 0, .int .i64 0] 43 ∧ Blk W W4.heap.size #[.int .i64 p.q, .int .i64 p.s, .slice A2 p.steps.length c2, .int .i64 p.fr, .int .i64 p.by_] 43 ∧ Own stepC 7 56 79 W (.slice A2 p.steps.length c2) (LL.tab p.steps.length (LL.mix (LL.shF p d) p.steps LL.z0 0))) ⟨(by repeat' (first | with_reducible exact Below.refl _ _ | with_reducible assumption | with_reducible refine b_alloc ?_ _ | with_reducible refine b_drewN ?_ _ | with_reducible refine b_drew ?_ | with_reducible refine b_set ?_ (by first | (simp only [World.size_setCell, World.size_alloc, World.size_drew]; omega) | (simp; done) | (simp; omega)) _ | with_reducible refine b_step ?_ (by with_reducible assumption))), (by repeat' (first | with_reducible assumption | with_reducible exact Blk.new _ _ _ | with_reducible exact Blk.new' _ _ (by first | (simp only [World.size_alloc, World.size_setCell, World.size_drew]; done) | (simp only [World.size_alloc, World.size_setCell, World.size_drew]; omega) | omega) | with_reducible refine Blk.a ?_ _ | with_reducible refine Blk.d ?_ | with_reducible refine Blk.dN ?_ _ | with_reducible refine Blk.s ?_ (by simp only [ne_eq]; omega) _ | with_reducible refine Blk.b ?_ (by with_reducible assumption))), Blk.new _ _ _, by rw [LL.mix_zero]; exact hO.a _⟩ ?_
      clear hb kP kR hO
      rintro W5 ⟨hb, kR, kX, hO⟩
      generalize W4.heap.size = gx at kX hX0 hO3 ⊢
      go_loopw [7] (fun i wr => ∃ k : Nat, k ≤ p.steps.length ∧ i = .int .i64 k ∧ Below w.heap.size w wr ∧ Blk wr (w.heap.size + 1) #[.int .i64 0, .int .i64 0, .slice none 0 0, .int .i64 0, .int .i64 0] 43 ∧ Blk wr gx #[.int .i64 p.q, .int .i64 p.s, .slice A2 p.steps.length c2, .int .i64 p.fr, .int .i64 p.by_] 43 ∧ Own stepC 7 56 79 wr (.slice A2 p.steps.length c2) (LL.tab p.steps.length (LL.mix (LL.shF p d) p.steps LL.z0 k))) (fun i _ => p.steps.length - (intOf i).toNat)
      case atStart => exact ⟨0, Nat.zero_le _, rfl, hb, kR, kX, hO⟩
      case round =>
        clear hb kR kX hO
        obtain ⟨k, hk, rfl, hb, kR, kX, hO⟩ := hrel
        obtain ⟨ekX, fkX, lkX⟩ := kX.cells
        by_cases hlt : k < p.steps.length
        · obtain ⟨g, rfl⟩ := hO.someA (by rw [LL.tab_len]; omega)
          have hgl := hO2 g rfl
          have hgl3 := hO3 g rfl
          have hSt := hO.St k hlt
          rw [LL.mix_here] at hSt
          obtain ⟨c4, c5, f0, gl⟩ := hSt
          have hw := (hP.2.2.2.2.2 k hlt).1
          obtain ⟨_, _, _, _, _, w0, w1, w2⟩ := hw
          simp only [LL.nth] at w0 w1 w2
          obtain ⟨hd0, hd1⟩ := hD
          generalize hs : p.steps.getD k LL.z0 = s at c4 c5 w0 w1 w2
          have Hs := Lib.hid hs
          clear hs
          go_wp2_with fail
          ((refine calm_tail_b 13 (by kernel_rfl) (by kernel_rfl) ?_); (simp only [List.take_succ_cons, List.take_zero, List.drop_succ_cons, List.drop_zero]); (repeat ((apply sure_cons (hg := rfl)); (focus ((intro w' hS'); (obtain ⟨hcS, hfS, hlS⟩ := bcell hS'); (try simp only [World.size_setCell, World.size_alloc, World.size_drew] at hS' hcS hfS hlS); (go_simp); (try go_bits); (try ((first | rw [if_pos (by omega)] | rw [if_neg (by omega)]); go_simp)); (first | (with_reducible rfl) | (with_reducible exact rfl) | (with_reducible exact ⟨rfl, hS'⟩) | fail))); (simp only [Act.put, List.setIfInBounds_toArray, List.set_cons_zero, List.set_cons_succ]))); (refine sure_nil ?_))
          intro W6 hS6
          clear ekX fkX lkX
          clear c4 c5 f0 gl
          replace hb := b_step hb hS6; replace kR := kR.b hS6; replace kX := kX.b hS6; replace hO := hO.b hS6; clear hS6
          obtain ⟨ekX, fkX, lkX⟩ := kX.cells
          have hSt := hO.St k hlt
          rw [LL.mix_here, Hs.out] at hSt
          obtain ⟨c4, c5, f0, gl⟩ := hSt
          go_wp2_with fail
          refine wp_name (fun W => Below w.heap.size w W ∧ Blk W (w.heap.size + 1) #[.int .i64 0, .int .i64 0, .slice none 0 0, .int .i64 0, .int .i64 0] 43 ∧ Blk W gx #[.int .i64 p.q, .int .i64 p.s, .slice (some ⟨g, 0, none⟩) p.steps.length c2, .int .i64 p.fr, .int .i64 p.by_] 43 ∧ Own stepC 7 56 79 W (.slice (some ⟨g, 0, none⟩) p.steps.length c2) (LL.tab p.steps.length (LL.upd (LL.mix (LL.shF p d) p.steps LL.z0 k) k ⟨s.x, s.y, s.lo, s.hi, s.fr + d, s.by_, s.hold⟩))) ⟨b_set hb (by simp only; omega) _, kR.s (by simp only [ne_eq]; omega) _, kX.s (by simp only [ne_eq]; omega) _, hO.updSt k hlt 4 (x := .int .i64 (s.fr + d)) (s := ⟨s.x, s.y, s.lo, s.hi, s.fr + d, s.by_, s.hold⟩) (by omega) (by rw [LL.mix_here, Hs.out]; rfl) rfl⟩ ?_
          clear ekX fkX lkX
          clear hb kR kX hO c4 c5 f0 gl
          rintro W7 ⟨hb, kR, kX, hO⟩
          obtain ⟨ekX, fkX, lkX⟩ := kX.cells
          have hSt := hO.St k hlt
          rw [LL.upd_same] at hSt
          obtain ⟨c4, c5, f0, gl⟩ := hSt
          ((refine calm_tail_b 13 (by kernel_rfl) (by kernel_rfl) ?_); (simp only [List.take_succ_cons, List.take_zero, List.drop_succ_cons, List.drop_zero]); (repeat ((apply sure_cons (hg := rfl)); (focus ((intro w' hS'); (obtain ⟨hcS, hfS, hlS⟩ := bcell hS'); (try simp only [World.size_setCell, World.size_alloc, World.size_drew] at hS' hcS hfS hlS); (go_simp); (try go_bits); (try ((first | rw [if_pos (by omega)] | rw [if_neg (by omega)]); go_simp)); (first | (with_reducible rfl) | (with_reducible exact rfl) | (with_reducible exact ⟨rfl, hS'⟩) | fail))); (simp only [Act.put, List.setIfInBounds_toArray, List.set_cons_zero, List.set_cons_succ]))); (refine sure_nil ?_))
          intro W8 hS8
          clear ekX fkX lkX
          clear c4 c5 f0 gl
          replace hb := b_step hb hS8; replace kR := kR.b hS8; replace kX := kX.b hS8; replace hO := hO.b hS8; clear hS8
          obtain ⟨ekX, fkX, lkX⟩ := kX.cells
          have hSt := hO.St k hlt
          rw [LL.upd_same] at hSt
          obtain ⟨c4, c5, f0, gl⟩ := hSt
          go_wp2_with fail
          go_roundw
          case rel =>
            have hs := Hs.out
            refine ⟨k + 1, by omega, by go_num, b_set hb (by simp only; omega) _, kR.s (by simp only [ne_eq]; omega) _, kX.s (by simp only [ne_eq]; omega) _, ?_⟩
            exact hO.updSt k hlt 5 (x := .int .i64 (s.by_ + d)) (s := LL.shF p d k) (by omega) (by rw [LL.upd_same]; simp only [LL.shF, LL.shS, LL.nth, hs]; rfl) (by rw [LL.upd_upd, LL.mix_next])
          case measure => simp [intOf]; omega
        · obtain rfl : k = p.steps.length := by omega
          rw [LL.mix_all] at hO
          have HP0 := Lib.hid hP
          obtain ⟨_, _, v0, v1, v2, _⟩ := hP
          obtain ⟨hd0, hd1⟩ := hD
          go_wp2_with fail
          refine calls_name (fun W => Below w.heap.size w W ∧ Blk W gx #[.int .i64 p.q, .int .i64 p.s, .slice A2 p.steps.length c2, .int .i64 (p.fr + d), .int .i64 (p.by_ + d)] 43 ∧ Blk W (w.heap.size + 1) #[.int .i64 0, .int .i64 0, .slice none 0 0, .int .i64 0, .int .i64 0] 43 ∧ Own stepC 7 56 79 W (.slice A2 p.steps.length c2) (LL.tab p.steps.length (LL.shF p d))) ⟨(by repeat' (first | with_reducible exact Below.refl _ _ | with_reducible assumption | with_reducible refine b_alloc ?_ _ | with_reducible refine b_drewN ?_ _ | with_reducible refine b_drew ?_ | with_reducible refine b_set ?_ (by first | (simp only [World.size_setCell, World.size_alloc, World.size_drew]; omega) | (simp; done) | (simp; omega)) _ | with_reducible refine b_step ?_ (by with_reducible assumption))), by simpa using (kX.put 3 (.int .i64 (p.fr + d))).put 4 (.int .i64 (p.by_ + d)), (by repeat' (first | with_reducible assumption | with_reducible exact Blk.new _ _ _ | with_reducible exact Blk.new' _ _ (by first | (simp only [World.size_alloc, World.size_setCell, World.size_drew]; done) | (simp only [World.size_alloc, World.size_setCell, World.size_drew]; omega) | omega) | with_reducible refine Blk.a ?_ _ | with_reducible refine Blk.d ?_ | with_reducible refine Blk.dN ?_ _ | with_reducible refine Blk.s ?_ (by simp only [ne_eq]; omega) _ | with_reducible refine Blk.b ?_ (by with_reducible assumption))), (hO.s _ (fun k hk => by have := hO3 k hk; simp only; omega)).s _ (fun k hk => by have := hO3 k hk; simp only; omega)⟩ ?_
          clear ekX fkX lkX
          clear hb kX kR hO
          rintro W6 ⟨hb, kX, kR, hO⟩
          have hl : (LL.shP p d).steps.length = p.steps.length := LL.tab_len _ _
          have HC := spec_FlyPathOk_c (LL.shP p d) A2 c2 W6 (by rw [hl]; exact hO.rd_at' stepE)
          rw [hl] at HC
          refine HC.mono ?_
          clear HC
          rintro e W7 ⟨rfl, hB⟩
          replace hb := b_step hb hB; replace kX := kX.b hB; replace kR := kR.b hB; replace hO := hO.b hB; clear hB
          obtain ⟨ekX, fkX, lkX⟩ := kX.cells; obtain ⟨ekR, fkR, lkR⟩ := kR.cells
          by_cases hQ : LL.PathOk (LL.shP p d)
          · rw [decide_eq_true hQ]
            go_wp2_with fail
            (refine bodyPost_ret (res_ct rfl _ [.int .i64 p.q, .int .i64 p.s, .slice A2 p.steps.length c2, .int .i64 (p.fr + d), .int .i64 (p.by_ + d)] rfl _ rfl _ Try.underlying43 rfl (by kernel_rfl) (by simp only [CellsAt, and_true]; and_intros <;> go_simp)) rfl ?_)
            have hS : LL.ShOk p d := ⟨HP0.out, ⟨hd0, hd1⟩, hQ⟩
            rw [LL.shiftM_yes hS, decide_eq_true hS]
            exact ⟨_, rfl, ((((hO.s _ (fun k hk => by have := hO2 k hk; simp only; omega)).s _ (fun k hk => by have := hO2 k hk; simp only; omega)).s _ (fun k hk => by have := hO2 k hk; simp only; omega)).s _ (fun k hk => by have := hO2 k hk; simp only; omega)).s _ (fun k hk => by have := hO2 k hk; simp only; omega), fun k hk => by have := hO2 k hk; omega, (by repeat' (first | with_reducible exact Below.refl _ _ | with_reducible assumption | with_reducible refine b_alloc ?_ _ | with_reducible refine b_drewN ?_ _ | with_reducible refine b_drew ?_ | with_reducible refine b_set ?_ (by first | (simp only [World.size_setCell, World.size_alloc, World.size_drew]; omega) | (simp; done) | (simp; omega)) _ | with_reducible refine b_step ?_ (by with_reducible assumption)))⟩
          · rw [decide_eq_false hQ]
            go_wp2_with fail
            (refine bodyPost_ret (res_ct rfl _ [.int .i64 0, .int .i64 0, .slice none 0 0, .int .i64 0, .int .i64 0] rfl _ rfl _ Try.underlying43 rfl (by kernel_rfl) (by simp only [CellsAt, and_true]; and_intros <;> go_simp)) rfl ?_)
            have hS : ¬ LL.ShOk p d := fun hS => hQ hS.2.2
            rw [LL.shiftM_no hS, decide_eq_false hS]
            exact MkPB.none (by repeat' (first | with_reducible exact Below.refl _ _ | with_reducible assumption | with_reducible refine b_alloc ?_ _ | with_reducible refine b_drewN ?_ _ | with_reducible refine b_drew ?_ | with_reducible refine b_set ?_ (by first | (simp only [World.size_setCell, World.size_alloc, World.size_drew]; omega) | (simp; done) | (simp; omega)) _ | with_reducible refine b_step ?_ (by with_reducible assumption)))
    · go_enter Try.func20, Try.ntmps20
      go_wp2_with fail
      refine calls_name (fun W => Below w.heap.size w W ∧ Blk W w.heap.size #[.int .i64 p.q, .int .i64 p.s, .slice A p.steps.length c, .int .i64 p.fr, .int .i64 p.by_] 43 ∧ Blk W (w.heap.size + 1) #[.int .i64 0, .int .i64 0, .slice none 0 0, .int .i64 0, .int .i64 0] 43) ⟨(by repeat' (first | with_reducible exact Below.refl _ _ | with_reducible assumption | with_reducible refine b_alloc ?_ _ | with_reducible refine b_drewN ?_ _ | with_reducible refine b_drew ?_ | with_reducible refine b_set ?_ (by first | (simp only [World.size_setCell, World.size_alloc, World.size_drew]; omega) | (simp; done) | (simp; omega)) _ | with_reducible refine b_step ?_ (by with_reducible assumption))), (by repeat' (first | with_reducible assumption | with_reducible exact Blk.new _ _ _ | with_reducible exact Blk.new' _ _ (by first | (simp only [World.size_alloc, World.size_setCell, World.size_drew]; done) | (simp only [World.size_alloc, World.size_setCell, World.size_drew]; omega) | omega) | with_reducible refine Blk.a ?_ _ | with_reducible refine Blk.d ?_ | with_reducible refine Blk.dN ?_ _ | with_reducible refine Blk.s ?_ (by simp only [ne_eq]; omega) _ | with_reducible refine Blk.b ?_ (by with_reducible assumption))), (by repeat' (first | with_reducible assumption | with_reducible exact Blk.new _ _ _ | with_reducible exact Blk.new' _ _ (by first | (simp only [World.size_alloc, World.size_setCell, World.size_drew]; done) | (simp only [World.size_alloc, World.size_setCell, World.size_drew]; omega) | omega) | with_reducible refine Blk.a ?_ _ | with_reducible refine Blk.d ?_ | with_reducible refine Blk.dN ?_ _ | with_reducible refine Blk.s ?_ (by simp only [ne_eq]; omega) _ | with_reducible refine Blk.b ?_ (by with_reducible assumption)))⟩ ?_
      rintro W1 ⟨hb, kP, kR⟩
      refine (spec_FlyPathOk_c p A c _ (h.mono hb)).mono ?_
      rintro e W2 ⟨rfl, hB⟩
      replace hb := b_step hb hB; replace kP := kP.b hB; replace kR := kR.b hB; clear hB
      rw [decide_eq_true hP]
      obtain ⟨ekP, fkP, lkP⟩ := kP.cells; obtain ⟨ekR, fkR, lkR⟩ := kR.cells
      go_wp2_with (go_at_call 72; refine (spec_l1In_c _ _ _ _).mono ?_; rintro e w' ⟨rfl, rfl⟩)
      (refine bodyPost_ret (res_ct rfl _ [.int .i64 0, .int .i64 0, .slice none 0 0, .int .i64 0, .int .i64 0] rfl _ rfl _ Try.underlying43 rfl (by kernel_rfl) (by simp only [CellsAt, and_true]; and_intros <;> go_simp)) rfl ?_)
      have hS : ¬ LL.ShOk p d := fun hS => hD hS.2.1
      rw [LL.shiftM_no hS, decide_eq_false hS]
      exact MkPB.none (by repeat' (first | with_reducible exact Below.refl _ _ | with_reducible assumption | with_reducible refine b_alloc ?_ _ | with_reducible refine b_drewN ?_ _ | with_reducible refine b_drew ?_ | with_reducible refine b_set ?_ (by first | (simp only [World.size_setCell, World.size_alloc, World.size_drew]; omega) | (simp; done) | (simp; omega)) _ | with_reducible refine b_step ?_ (by with_reducible assumption)))
  · go_enter Try.func20, Try.ntmps20
    go_wp2_with fail
    refine calls_name (fun W => Below w.heap.size w W ∧ Blk W w.heap.size #[.int .i64 p.q, .int .i64 p.s, .slice A p.steps.length c, .int .i64 p.fr, .int .i64 p.by_] 43 ∧ Blk W (w.heap.size + 1) #[.int .i64 0, .int .i64 0, .slice none 0 0, .int .i64 0, .int .i64 0] 43) ⟨(by repeat' (first | with_reducible exact Below.refl _ _ | with_reducible assumption | with_reducible refine b_alloc ?_ _ | with_reducible refine b_drewN ?_ _ | with_reducible refine b_drew ?_ | with_reducible refine b_set ?_ (by first | (simp only [World.size_setCell, World.size_alloc, World.size_drew]; omega) | (simp; done) | (simp; omega)) _ | with_reducible refine b_step ?_ (by with_reducible assumption))), (by repeat' (first | with_reducible assumption | with_reducible exact Blk.new _ _ _ | with_reducible exact Blk.new' _ _ (by first | (simp only [World.size_alloc, World.size_setCell, World.size_drew]; done) | (simp only [World.size_alloc, World.size_setCell, World.size_drew]; omega) | omega) | with_reducible refine Blk.a ?_ _ | with_reducible refine Blk.d ?_ | with_reducible refine Blk.dN ?_ _ | with_reducible refine Blk.s ?_ (by simp only [ne_eq]; omega) _ | with_reducible refine Blk.b ?_ (by with_reducible assumption))), (by repeat' (first | with_reducible assumption | with_reducible exact Blk.new _ _ _ | with_reducible exact Blk.new' _ _ (by first | (simp only [World.size_alloc, World.size_setCell, World.size_drew]; done) | (simp only [World.size_alloc, World.size_setCell, World.size_drew]; omega) | omega) | with_reducible refine Blk.a ?_ _ | with_reducible refine Blk.d ?_ | with_reducible refine Blk.dN ?_ _ | with_reducible refine Blk.s ?_ (by simp only [ne_eq]; omega) _ | with_reducible refine Blk.b ?_ (by with_reducible assumption)))⟩ ?_
    rintro W1 ⟨hb, kP, kR⟩
    refine (spec_FlyPathOk_c p A c _ (h.mono hb)).mono ?_
    rintro e W2 ⟨rfl, hB⟩
    replace hb := b_step hb hB; replace kP := kP.b hB; replace kR := kR.b hB; clear hB
    rw [decide_eq_false hP]
    obtain ⟨ekP, fkP, lkP⟩ := kP.cells; obtain ⟨ekR, fkR, lkR⟩ := kR.cells
    go_wp2_with fail
    (refine bodyPost_ret (res_ct rfl _ [.int .i64 0, .int .i64 0, .slice none 0 0, .int .i64 0, .int .i64 0] rfl _ rfl _ Try.underlying43 rfl (by kernel_rfl) (by simp only [CellsAt, and_true]; and_intros <;> go_simp)) rfl ?_)
    have hS : ¬ LL.ShOk p d := fun hS => hP hS.1
    rw [LL.shiftM_no hS, decide_eq_false hS]
    exact MkPB.none (by repeat' (first | with_reducible exact Below.refl _ _ | with_reducible assumption | with_reducible refine b_alloc ?_ _ | with_reducible refine b_drewN ?_ _ | with_reducible refine b_drew ?_ | with_reducible refine b_set ?_ (by first | (simp only [World.size_setCell, World.size_alloc, World.size_drew]; omega) | (simp; done) | (simp; omega)) _ | with_reducible refine b_step ?_ (by with_reducible assumption)))
end Go.Proofs.Ytpeojnknfonmlaa

/- Plain mathematics: flights that have begun, what is left of a path. -/
set_option linter.unusedVariables false
set_option linter.unusedSimpArgs false
namespace Go.Proofs.Ytpeojnknfonmlaa.LL
/-! ### flights that have begun -/
def hdS (f : List Int) (i : Nat) (s : Step) : Step := ⟨s.x, s.y, s.lo, s.hi, max s.fr (nthI f i), min s.by_ (nthI f i), s.hold⟩
def hdF (p : Path) (f : List Int) (i : Nat) : Step := hdS f i (nth p.steps i)
def hdFr (p : Path) (f : List Int) : Nat → Int
  | 0 => p.fr
  | k + 1 => if k < p.steps.length then hdFr p f k else max (hdFr p f k) (nthI f k)
def hdBy (p : Path) (f : List Int) : Nat → Int
  | 0 => p.by_
  | k + 1 => if k < p.steps.length then hdBy p f k else min (hdBy p f k) (nthI f k)
/-- the path whose first k entries are as they were -/
def hdK (p : Path) (f : List Int) (k : Nat) : Path := ⟨p.q, p.s, tab p.steps.length (mix (hdF p f) p.steps z0 k), hdFr p f k, hdBy p f k⟩
def hdP (p : Path) (f : List Int) : Path := hdK p f f.length
theorem hdFr_lt {p : Path} {f : List Int} : ∀ {k : Nat}, k ≤ p.steps.length → hdFr p f k = p.fr
  | 0, _ => rfl
  | k + 1, h => by rw [hdFr, if_pos (by omega), hdFr_lt (by omega)]
theorem hdBy_lt {p : Path} {f : List Int} : ∀ {k : Nat}, k ≤ p.steps.length → hdBy p f k = p.by_
  | 0, _ => rfl
  | k + 1, h => by rw [hdBy, if_pos (by omega), hdBy_lt (by omega)]
theorem hdK_len (p : Path) (f : List Int) (k : Nat) : (hdK p f k).steps.length = p.steps.length := tab_len _ _
theorem hdP_len (p : Path) (f : List Int) : (hdP p f).steps.length = p.steps.length := tab_len _ _
theorem hdK_zero (p : Path) (f : List Int) : hdK p f 0 = p := by unfold hdK; rw [mix_zero]; rfl
theorem hdK_nth (p : Path) (f : List Int) (k i : Nat) (h : i < p.steps.length) : nth (hdK p f k).steps i = if i < k then hdF p f i else nth p.steps i := by
  unfold nth hdK; rw [tab_getD h]; rfl
theorem hdP_at (p : Path) (f : List Int) (i : Nat) (h : i < p.steps.length) : (hdP p f).at_ i = if i < f.length then hdF p f i else p.at_ i := hdK_nth p f _ i h
theorem mix_ge {α : Type} (f : Nat → α) (xs : List α) (d : α) (k : Nat) (h : xs.length ≤ k) : tab xs.length (mix f xs d k) = tab xs.length f := tab_congr fun i hi => if_pos (by omega)
theorem hdP_lowB (p : Path) (f : List Int) (k : Nat) (h : f.length ≤ p.steps.length) (hk : k ≤ p.steps.length) : lowB (hdP p f) k = if k < f.length then max (lowB p k) (nthI f k) else lowB p k := by
  unfold lowB
  rw [hdP_len]
  by_cases h1 : k < p.steps.length
  · rw [if_pos h1, if_pos h1, hdP_at p f k h1]
    split <;> rfl
  · rw [if_neg h1, if_neg h1, if_neg (by omega)]
    exact hdFr_lt h
theorem hdP_highB (p : Path) (f : List Int) (k : Nat) (h : f.length ≤ p.steps.length) (hk : k ≤ p.steps.length) : highB (hdP p f) k = if k < f.length then min (highB p k) (nthI f k) else highB p k := by
  unfold highB
  rw [hdP_len]
  by_cases h1 : k < p.steps.length
  · rw [if_pos h1, if_pos h1, hdP_at p f k h1]
    split <;> rfl
  · rw [if_neg h1, if_neg h1, if_neg (by omega)]
    exact hdBy_lt h
theorem SpansOk.bounds {p : Path} (h : SpansOk p) (k : Nat) (hk : k ≤ p.steps.length) : lowB p k ≤ highB p k := by
  have := h.1 k hk; have := lowB_le_lowF p k; have := highF_le_highB p k; omega
/-- windows narrower than those of a path that is ok -/
theorem PathOk.narrow {p p' : Path} (h : PathOk p) (hq : p'.q = p.q) (hs : p'.s = p.s) (hl : p'.steps.length = p.steps.length) (hS : SpansOk p')
    (hc : ∀ i, i < p.steps.length → (p'.at_ i).x = (p.at_ i).x ∧ (p'.at_ i).y = (p.at_ i).y ∧ (p'.at_ i).lo = (p.at_ i).lo ∧ (p'.at_ i).hi = (p.at_ i).hi)
    (hlo : ∀ k, k ≤ p.steps.length → lowB p k ≤ lowB p' k) (hhi : ∀ k, k ≤ p.steps.length → highB p' k ≤ highB p k) : PathOk p' := by
  have W := h.win
  have B := fun k (hk : k ≤ p.steps.length) => hS.bounds k (by rw [hl]; exact hk)
  obtain ⟨⟨a, b, c⟩, ⟨d, e⟩, f, g, i, j⟩ := h
  refine ⟨⟨by rw [hq]; exact a, by rw [hq, hs]; exact b, by rw [hs]; exact c⟩, ⟨by rw [hl]; exact d, by rw [hl]; exact e⟩, ?_, ?_, ?_, ?_⟩
  · have h1 := hlo _ (Nat.le_refl _); have h2 := W.low _ (Nat.le_refl _)
    unfold lowB at h1 h2; rw [hl, if_neg (Nat.lt_irrefl _)] at h1; rw [if_neg (Nat.lt_irrefl _)] at h1 h2; omega
  · have h1 := B _ (Nat.le_refl _)
    unfold lowB highB at h1; rw [hl, if_neg (Nat.lt_irrefl _), if_neg (Nat.lt_irrefl _)] at h1; exact h1
  · have h1 := hhi _ (Nat.le_refl _); have h2 := W.high _ (Nat.le_refl _)
    unfold highB at h1 h2; rw [hl, if_neg (Nat.lt_irrefl _)] at h1; rw [if_neg (Nat.lt_irrefl _)] at h1 h2; omega
  · intro k hk
    rw [hl] at hk
    obtain ⟨⟨s1, s2, s3, s4, s5, s6, s7, s8⟩, hn⟩ := j k hk
    obtain ⟨c1, c2, c3, c4⟩ := hc k hk
    have l1 := hlo k (by omega); have l2 := hhi k (by omega); have l3 := B k (by omega)
    unfold lowB at l1 l3; unfold highB at l2 l3
    rw [hl, if_pos hk, if_pos hk] at l1 l2 l3
    unfold Path.at_ at c1 c2 c3 c4 l1 l2 l3
    refine ⟨⟨by rw [c1]; exact s1, by rw [c2]; exact s2, by rw [c3]; exact s3, by rw [c3, c4]; exact s4, by rw [c4]; exact s5, by omega, by omega, by omega⟩, fun h0 => ?_⟩
    obtain ⟨d1, d2, d3, d4⟩ := hc (k - 1) (by omega)
    unfold Path.at_ at d1 d2 d3 d4
    obtain ⟨n1, n2, n3, n4, n5⟩ := hn h0
    exact ⟨by rw [c1, c2, d1, d2]; exact n1, by rw [c1, d1]; exact n2, by rw [c2, d2]; exact n3, by rw [d3, c4]; exact n4, by rw [c3, d4]; exact n5⟩
theorem hdP_ok {p : Path} {f : List Int} (h : PathOk p) (hl : f.length ≤ p.steps.length) (hS : SpansOk (hdP p f)) : PathOk (hdP p f) := by
  refine h.narrow (p' := hdP p f) rfl rfl (hdP_len p f) hS (fun i hi => ?_) (fun k hk => ?_) (fun k hk => ?_)
  · rw [hdP_at p f i hi]
    split
    · exact ⟨rfl, rfl, rfl, rfl⟩
    · exact ⟨rfl, rfl, rfl, rfl⟩
  · rw [hdP_lowB p f k hl hk]; split <;> omega
  · rw [hdP_highB p f k hl hk]; split <;> omega
theorem hdP_win {p : Path} {f : List Int} (h : PathOk p) (hl : f.length ≤ p.steps.length) : Win (hdP p f) := by
  have W := h.win
  refine ⟨W.q0, W.q1, W.s0, W.s1, fun k hk => ?_, fun k hk => ?_⟩
  · rw [hdP_len] at hk; rw [hdP_lowB p f k hl hk]; have := W.low k hk; split <;> omega
  · rw [hdP_len] at hk; rw [hdP_highB p f k hl hk]; have := W.high k hk; split <;> omega
theorem hdP_out {p : Path} {f : List Int} (hl : f.length ≤ p.steps.length) {k : Nat} (hk : k < f.length) (h : ¬ In (nthI f k) (nth p.steps k).fr (nth p.steps k).by_) : ¬ SpansOk (hdP p f) := fun hS => by
  have := hS.bounds k (by rw [hdP_len]; omega)
  rw [hdP_lowB p f k hl (by omega), hdP_highB p f k hl (by omega), if_pos hk, if_pos hk] at this
  unfold lowB highB Path.at_ at this
  rw [if_pos (by omega), if_pos (by omega)] at this
  apply h; unfold In; omega
/-- a flight that has begun so can go on -/
def CanNext (p : Path) (f : List Int) : Prop := PathOk p ∧ f.length ≤ p.steps.length ∧ SpansOk (hdP p f)
instance (p : Path) (f : List Int) : Decidable (CanNext p f) := inferInstanceAs (Decidable (_ ∧ _))
def nextLo (p : Path) (f : List Int) : Int := if CanNext p f then lo (hdP p f) f.length else 0
def nextHi (p : Path) (f : List Int) : Int := if CanNext p f then hi (hdP p f) f.length else 0
/-! ### what is left of a path -/
def setW (s : Step) (fr by_ : Int) : Step := ⟨s.x, s.y, s.lo, s.hi, fr, by_, s.hold⟩
def tlF (p : Path) (st : Nat) (fr by_ now : Int) (i : Nat) : Step := if i = 0 then setW (nth p.steps st) fr by_ else if i = 1 then setW (nth p.steps (st + 1)) (max (nth p.steps (st + 1)).fr (now + 1)) (nth p.steps (st + 1)).by_ else nth p.steps (st + i)
def tlP (p : Path) (st : Nat) (fr by_ now : Int) : Path := ⟨p.q, p.s, tab (p.steps.length - st) (tlF p st fr by_ now), if st + 1 < p.steps.length then p.fr else max p.fr (now + 1), p.by_⟩
theorem tlP_len (p : Path) (st : Nat) (fr by_ now : Int) : (tlP p st fr by_ now).steps.length = p.steps.length - st := tab_len _ _
/-- the steps from one on, as they are -/
def drP (p : Path) (st : Nat) : Path := ⟨p.q, p.s, tab (p.steps.length - st) (fun i => nth p.steps (st + i)), p.fr, p.by_⟩
theorem drP_len (p : Path) (st : Nat) : (drP p st).steps.length = p.steps.length - st := tab_len _ _
theorem drP_at (p : Path) (st i : Nat) (h : st + i < p.steps.length) : (drP p st).at_ i = p.at_ (st + i) := by
  unfold Path.at_ nth drP; exact tab_getD (by omega)
theorem drP_ok {p : Path} (h : PathOk p) (st : Nat) (hst : st < p.steps.length) : PathOk (drP p st) := by
  obtain ⟨k, ⟨d, e⟩, f, g, i, j⟩ := h
  refine ⟨k, ⟨by rw [drP_len]; omega, by rw [drP_len]; omega⟩, f, g, i, fun m hm => ?_⟩
  rw [drP_len] at hm
  obtain ⟨s, n⟩ := j (st + m) (by omega)
  refine ⟨?_, fun h0 => ?_⟩
  · show StepOk ((drP p st).at_ m); rw [drP_at p st m (by omega)]; exact s
  · show NextOk ((drP p st).at_ (m - 1)) ((drP p st).at_ m)
    rw [drP_at p st m (by omega), drP_at p st (m - 1) (by omega)]
    have := n (by omega)
    rwa [show st + m - 1 = st + (m - 1) by omega] at this
theorem tlP_at (p : Path) (st : Nat) (fr by_ now : Int) (i : Nat) (h : i < p.steps.length - st) : (tlP p st fr by_ now).at_ i = tlF p st fr by_ now i := tab_getD h
theorem tlF_same (p : Path) (st : Nat) (fr by_ now : Int) (i : Nat) (h : st + i < p.steps.length) : (tlF p st fr by_ now i).x = ((drP p st).at_ i).x ∧ (tlF p st fr by_ now i).y = ((drP p st).at_ i).y ∧ (tlF p st fr by_ now i).lo = ((drP p st).at_ i).lo ∧ (tlF p st fr by_ now i).hi = ((drP p st).at_ i).hi := by
  rw [drP_at p st i h]
  unfold tlF Path.at_
  by_cases h0 : i = 0
  · subst h0; exact ⟨rfl, rfl, rfl, rfl⟩
  · by_cases h1 : i = 1
    · subst h1; exact ⟨rfl, rfl, rfl, rfl⟩
    · rw [if_neg h0, if_neg h1]; exact ⟨rfl, rfl, rfl, rfl⟩
section
variable {p : Path} {st : Nat} {fr by_ now : Int}
theorem tl_lowB (hf : (nth p.steps st).fr ≤ fr) (hst : st < p.steps.length) (k : Nat) (hk : k ≤ p.steps.length - st) : lowB (drP p st) k ≤ lowB (tlP p st fr by_ now) k := by
  unfold lowB
  rw [drP_len, tlP_len]
  by_cases h1 : k < p.steps.length - st
  · rw [if_pos h1, if_pos h1, drP_at p st k (by omega), tlP_at p st fr by_ now k h1]
    unfold tlF Path.at_
    by_cases h0 : k = 0
    · subst h0; exact hf
    · rw [if_neg h0]
      by_cases h2 : k = 1
      · subst h2; rw [if_pos rfl]; simp only [setW]; omega
      · rw [if_neg h2]; omega
  · rw [if_neg h1, if_neg h1]; simp only [drP, tlP]; split <;> omega
theorem tl_highB (hb : by_ ≤ (nth p.steps st).by_) (hst : st < p.steps.length) (k : Nat) (hk : k ≤ p.steps.length - st) : highB (tlP p st fr by_ now) k ≤ highB (drP p st) k := by
  unfold highB
  rw [drP_len, tlP_len]
  by_cases h1 : k < p.steps.length - st
  · rw [if_pos h1, if_pos h1, drP_at p st k (by omega), tlP_at p st fr by_ now k h1]
    unfold tlF Path.at_
    by_cases h0 : k = 0
    · subst h0; exact hb
    · rw [if_neg h0]
      by_cases h2 : k = 1
      · subst h2; rw [if_pos rfl]; simp only [setW]; omega
      · rw [if_neg h2]; omega
  · rw [if_neg h1, if_neg h1]; simp only [drP, tlP]; omega
theorem tlP_ok (h : PathOk p) (hst : st < p.steps.length) (hf : (nth p.steps st).fr ≤ fr) (hb : by_ ≤ (nth p.steps st).by_) (hS : SpansOk (tlP p st fr by_ now)) : PathOk (tlP p st fr by_ now) :=
  (drP_ok h st hst).narrow (p' := tlP p st fr by_ now) rfl rfl (by rw [drP_len, tlP_len]) hS
    (fun i hi => by rw [drP_len] at hi; rw [tlP_at p st fr by_ now i hi]; exact tlF_same p st fr by_ now i (by omega))
    (fun k hk => by rw [drP_len] at hk; exact tl_lowB hf hst k hk) (fun k hk => by rw [drP_len] at hk; exact tl_highB hb hst k hk)
theorem tlP_win (h : PathOk p) (hst : st < p.steps.length) (hf : (nth p.steps st).fr ≤ fr) (hb : by_ ≤ (nth p.steps st).by_) : Win (tlP p st fr by_ now) := by
  have W := (drP_ok h st hst).win
  refine ⟨W.q0, W.q1, W.s0, W.s1, fun k hk => ?_, fun k hk => ?_⟩
  · rw [tlP_len] at hk
    exact Int.le_trans (W.low k (by rw [drP_len]; exact hk)) (tl_lowB hf hst k hk)
  · rw [tlP_len] at hk
    exact Int.le_trans (tl_highB hb hst k hk) (W.high k (by rw [drP_len]; exact hk))
end
/-- there is a flight along what is left, and it is a path -/
theorem tlP_flies {p : Path} {st : Nat} {fr by_ now : Int} (h : PathOk p) (hst : st < p.steps.length) (hf : (nth p.steps st).fr ≤ fr) (hb : by_ ≤ (nth p.steps st).by_) : Flies (tlP p st fr by_ now) ↔ SpansOk (tlP p st fr by_ now) :=
  ⟨fun h => h.2, fun hS => ⟨tlP_ok h hst hf hb hS, hS⟩⟩
def rsP (p : Path) (st en now : Int) : Path := tlP p st.toNat (max (nth p.steps st.toNat).fr en) (min (nth p.steps st.toNat).by_ en) now
def CanRest (p : Path) (st en now : Int) : Prop := PathOk p ∧ In st 0 (p.steps.length - 1) ∧ 0 ≤ en ∧ en ≤ now ∧ now ≤ 10000 ∧ SpansOk (rsP p st en now)
instance (p : Path) (st en now : Int) : Decidable (CanRest p st en now) := inferInstanceAs (Decidable (_ ∧ _))
def restM (p : Path) (st en now : Int) : Path := if CanRest p st en now then rsP p st en now else p0
def snP (p : Path) (st now : Int) : Path := tlP p st.toNat (lo p st.toNat) (min (hi p st.toNat) now) now
def CanSeen (p : Path) (st now : Int) : Prop := PathOk p ∧ In st 0 (p.steps.length - 1) ∧ In now 0 10000 ∧ SpansOk p ∧ SpansOk (snP p st now)
instance (p : Path) (st now : Int) : Decidable (CanSeen p st now) := inferInstanceAs (Decidable (_ ∧ _))
def seenM (p : Path) (st now : Int) : Path := if CanSeen p st now then snP p st now else p0
theorem restM_yes {p : Path} {st en now : Int} (h : CanRest p st en now) : restM p st en now = rsP p st en now := if_pos h
theorem restM_no {p : Path} {st en now : Int} (h : ¬ CanRest p st en now) : restM p st en now = p0 := if_neg h
theorem seenM_yes {p : Path} {st now : Int} (h : CanSeen p st now) : seenM p st now = snP p st now := if_pos h
theorem seenM_no {p : Path} {st now : Int} (h : ¬ CanSeen p st now) : seenM p st now = p0 := if_neg h
theorem lo_ge (p : Path) (k : Nat) (hk : k < p.steps.length) : (nth p.steps k).fr ≤ lo p k := by
  have h1 := lowB_le_lowF p k; have h2 := lowF_le_lo p k (by omega)
  unfold lowB Path.at_ at h1; rw [if_pos hk] at h1; omega
theorem hi_le (p : Path) (k : Nat) (hk : k < p.steps.length) : hi p k ≤ (nth p.steps k).by_ := by
  have h1 := hi_le_highF p k (by omega); have h2 := highF_le_highB p k
  unfold highB Path.at_ at h2; rw [if_pos hk] at h2; omega
end Go.Proofs.Ytpeojnknfonmlaa.LL

/- What is left of a path: the program's helper. -/
set_option linter.unusedVariables false
set_option linter.unusedSimpArgs false
namespace Go.Proofs.Ytpeojnknfonmlaa
open Go.RowKit
attribute [local go_sem] w_lt_add w_le_of w_le_add max2_i min2_i ite_max ite_min
namespace LL
theorem drop_tab (p : Path) (st : Nat) : p.steps.drop st = (drP p st).steps := by
  apply List.ext_getElem?
  intro i
  unfold drP
  by_cases h : i < p.steps.length - st
  · simp [tab, h, nth, List.getD_eq_getElem?_getD, List.getElem?_eq_getElem (show st + i < p.steps.length by omega)]
  · rw [List.getElem?_eq_none (by simp; omega), List.getElem?_eq_none (by simp [tab]; omega)]
def leftM (p : Path) (st : Nat) (fr by_ now : Int) : Path := if SpansOk (tlP p st fr by_ now) then tlP p st fr by_ now else p0
theorem leftM_yes {p : Path} {st : Nat} {fr by_ now : Int} (h : SpansOk (tlP p st fr by_ now)) : leftM p st fr by_ now = tlP p st fr by_ now := if_pos h
theorem leftM_no {p : Path} {st : Nat} {fr by_ now : Int} (h : ¬ SpansOk (tlP p st fr by_ now)) : leftM p st fr by_ now = p0 := if_neg h
/-- the tail with its first step's window set -/
def tl0 (p : Path) (st : Nat) (fr by_ : Int) (i : Nat) : Step := if i = 0 then setW (nth p.steps st) fr by_ else nth p.steps (st + i)
theorem tl0_upd (p : Path) (st : Nat) (fr by_ : Int) : upd (upd (fun i => nth p.steps (st + i)) 0 (setW (nth p.steps st) fr (nth p.steps st).by_)) 0 (setW (nth p.steps st) fr by_) = tl0 p st fr by_ := by
  rw [upd_upd]; rfl
theorem tl1_upd (p : Path) (st : Nat) (fr by_ now : Int) : upd (tl0 p st fr by_) 1 (setW (nth p.steps (st + 1)) (max (nth p.steps (st + 1)).fr (now + 1)) (nth p.steps (st + 1)).by_) = tlF p st fr by_ now := by
  funext i
  unfold upd tl0 tlF
  by_cases h1 : i = 1
  · subst h1; rfl
  · rw [if_neg h1]
    by_cases h0 : i = 0
    · rw [if_pos h0, if_pos h0]
    · rw [if_neg h0, if_neg h0, if_neg h1]
theorem tl_one (p : Path) (st : Nat) (fr by_ now : Int) (m : Nat) (h : m ≤ 1) : tab m (tl0 p st fr by_) = tab m (tlF p st fr by_ now) := tab_congr fun i hi => by
  obtain rfl : i = 0 := by omega
  rfl
end LL
theorem RdS.dropped {w : World} {b off c : Nat} {p : LL.Path} (h : RdS w (some ⟨b, off, none⟩) p.steps.length c p.steps) (st : Nat) (hst : st < p.steps.length) : RdS w (some ⟨b, off + st * 7, none⟩) (LL.drP p st).steps.length (c - st) (LL.drP p st).steps := by
  rw [LL.drP_len]
  refine ⟨LL.drP_len p st, by have := h.cap; omega, by have := h.room; omega, fun hn => ?_⟩
  obtain ⟨b', off', e, hlt, hc⟩ := h.at_ (by omega)
  cases e
  refine ⟨b, off + st * 7, rfl, hlt, fun i x hi j u hu => ?_⟩
  rw [← LL.drop_tab, List.getElem?_drop] at hi
  have := hc (st + i) x hi j u hu
  rw [show off + st * 7 + i * 7 + j = off + (st + i) * 7 + j by omega]
  exact this
theorem own_blk_ne {α : Type} {enc : α → List Value} {sz bytes e : Nat} {w : World} {v : Value} {xs : List α} {g t : Nat} {cs : Array Value} (h : Own enc sz bytes e w v xs) (hg : Blk w g cs t) (ht : e ≠ t) : ∀ k, v.ownBlock = some k → k ≠ g := fun k hk he => by
  subst he
  rcases h.row.2 with ⟨rfl, _⟩ | ⟨g', cap, cur, rfl, _, hh, _⟩
  · simp [Value.ownBlock] at hk
  · simp [Value.ownBlock] at hk
    subst hk
    have h1 := hg.at_
    rw [hh] at h1
    injection h1 with h1
    injection h1 with _ h1
    exact ht h1
set_option maxRecDepth 100000 in
set_option maxHeartbeats 4000000 in
theorem impl_left_c (p : LL.Path) (A : Option Addr) (c : Nat) (st : Nat) (fr by_ now : Int) (w : World) (hP : LL.PathOk p) (hst : st < p.steps.length) (hf : (LL.nth p.steps st).fr ≤ fr) (hby : by_ ≤ (LL.nth p.steps st).by_) (hn0 : 0 ≤ now) (hn1 : now ≤ 10000) (h : RdS w A p.steps.length c p.steps) : Calls Try.prog 85 #[.agg #[.int .i64 p.q, .int .i64 p.s, .slice A p.steps.length c, .int .i64 p.fr, .int .i64 p.by_], .int .i64 st, .int .i64 fr, .int .i64 by_, .int .i64 now] w (MkPB 79 w (LL.leftM p st fr by_ now) (decide (LL.SpansOk (LL.tlP p st fr by_ now)))) := by
  have hroom := h.room
  have hcap := h.cap
  obtain ⟨b, off, rfl, hbw⟩ := h.addr (by omega)
  have hl := hP.2.1.2
  go_enter Try.func85, Try.ntmps85
  go_wp2_with fail
  refine wp_name (fun W => Below w.heap.size w W ∧ Blk W w.heap.size #[.int .i64 p.q, .int .i64 p.s, .slice (some ⟨b, off, none⟩) p.steps.length c, .int .i64 p.fr, .int .i64 p.by_] 43 ∧ Blk W (w.heap.size + 1) #[.int .i64 0, .int .i64 0, .slice none 0 0, .int .i64 0, .int .i64 0] 43) ⟨(by repeat' (first | with_reducible exact Below.refl _ _ | with_reducible assumption | with_reducible refine b_alloc ?_ _ | with_reducible refine b_drewN ?_ _ | with_reducible refine b_drew ?_ | with_reducible refine b_set ?_ (by first | (simp only [World.size_setCell, World.size_alloc, World.size_drew]; omega) | (simp; done) | (simp; omega)) _ | with_reducible refine b_step ?_ (by with_reducible assumption))), (by repeat' (first | with_reducible assumption | with_reducible exact Blk.new _ _ _ | with_reducible exact Blk.new' _ _ (by first | (simp only [World.size_alloc, World.size_setCell, World.size_drew]; done) | (simp only [World.size_alloc, World.size_setCell, World.size_drew]; omega) | omega) | with_reducible refine Blk.a ?_ _ | with_reducible refine Blk.d ?_ | with_reducible refine Blk.dN ?_ _ | with_reducible refine Blk.s ?_ (by simp only [ne_eq]; omega) _ | with_reducible refine Blk.b ?_ (by with_reducible assumption))), (by repeat' (first | with_reducible assumption | with_reducible exact Blk.new _ _ _ | with_reducible exact Blk.new' _ _ (by first | (simp only [World.size_alloc, World.size_setCell, World.size_drew]; done) | (simp only [World.size_alloc, World.size_setCell, World.size_drew]; omega) | omega) | with_reducible refine Blk.a ?_ _ | with_reducible refine Blk.d ?_ | with_reducible refine Blk.dN ?_ _ | with_reducible refine Blk.s ?_ (by simp only [ne_eq]; omega) _ | with_reducible refine Blk.b ?_ (by with_reducible assumption)))⟩ ?_
  rintro W1 ⟨hb, kP, kR⟩
  have hW1 := kR.cells.2.2
  obtain ⟨ekP, fkP, lkP⟩ := kP.cells
  obtain ⟨gc, gf, gl⟩ := bcell hb
  have hl2 := LL.drP_len p st
  have HC := fun (W : World) (hW : Below w.heap.size w W) => impl_copyPath_c (LL.drP p st) (some ⟨b, off + st * 7, none⟩) (c - st) W ((h.dropped st hst).mono hW)
  simp only [hl2] at HC
  refine rel_tail_b 13 [(11, fun v W => ∃ A9 c9, v = .agg #[.int .i64 p.q, .int .i64 p.s, .slice A9 (p.steps.length - st) c9, .int .i64 p.fr, .int .i64 p.by_] ∧ Own stepC 7 56 79 W (.slice A9 (p.steps.length - st) c9) (LL.drP p st).steps ∧ (∀ k, Value.ownBlock (.slice A9 (p.steps.length - st) c9) = some k → W1.heap.size ≤ k)), (12, fun v w' => ∃ g, v = .pointer (some ⟨g, 0, none⟩) ∧ W1.heap.size ≤ g ∧ Blk w' g #[.int .i64 0, .int .i64 0, .slice none 0 0, .int .i64 0, .int .i64 0] 43)] (by kernel_rfl) (by kernel_rfl) ?_
  simp only [List.take_succ_cons, List.take_zero, List.drop_succ_cons, List.drop_zero]
  ((apply rel_plain (hR := rfl) (hF := fun _ => trivial) (hg := rfl)); (focus ((intro w' hL'); (obtain ⟨hcS, hfS, hlS⟩ := bcell hL'); (try simp only [World.size_setCell, World.size_alloc, World.size_drew] at hcS hfS hlS); (go_simp); (try go_bits); (try (first | (rw [if_pos (by omega)]; done) | (rw [if_neg (by omega)]; done) | (rw [if_pos (by omega)]; go_simp) | (rw [if_neg (by omega)]; go_simp))); (first | with_reducible rfl | exact rfl | skip))); (simp only [Act.put, List.setIfInBounds_toArray, List.set_cons_zero, List.set_cons_succ]))
  ((apply rel_plain (hR := rfl) (hF := fun _ => trivial) (hg := rfl)); (focus ((intro w' hL'); (obtain ⟨hcS, hfS, hlS⟩ := bcell hL'); (try simp only [World.size_setCell, World.size_alloc, World.size_drew] at hcS hfS hlS); (go_simp); (try go_bits); (try (first | (rw [if_pos (by omega)]; done) | (rw [if_neg (by omega)]; done) | (rw [if_pos (by omega)]; go_simp) | (rw [if_neg (by omega)]; go_simp))); (first | with_reducible rfl | exact rfl | skip))); (simp only [Act.put, List.setIfInBounds_toArray, List.set_cons_zero, List.set_cons_succ]))
  ((apply rel_plain (hR := rfl) (hF := fun _ => trivial) (hg := rfl)); (focus ((intro w' hL'); (obtain ⟨hcS, hfS, hlS⟩ := bcell hL'); (try simp only [World.size_setCell, World.size_alloc, World.size_drew] at hcS hfS hlS); (go_simp); (try go_bits); (try (first | (rw [if_pos (by omega)]; done) | (rw [if_neg (by omega)]; done) | (rw [if_pos (by omega)]; go_simp) | (rw [if_neg (by omega)]; go_simp))); (first | with_reducible rfl | exact rfl | skip))); (simp only [Act.put, List.setIfInBounds_toArray, List.set_cons_zero, List.set_cons_succ]))
  ((apply rel_plain (hR := rfl) (hF := fun _ => trivial) (hg := rfl)); (focus ((intro w' hL'); (obtain ⟨hcS, hfS, hlS⟩ := bcell hL'); (try simp only [World.size_setCell, World.size_alloc, World.size_drew] at hcS hfS hlS); (go_simp); (try go_bits); (try (first | (rw [if_pos (by omega)]; done) | (rw [if_neg (by omega)]; done) | (rw [if_pos (by omega)]; go_simp) | (rw [if_neg (by omega)]; go_simp))); (first | with_reducible rfl | exact rfl | skip))); (simp only [Act.put, List.setIfInBounds_toArray, List.set_cons_zero, List.set_cons_succ]))
  ((apply rel_plain (hR := rfl) (hF := fun _ => trivial) (hg := rfl)); (focus ((intro w' hL'); (obtain ⟨hcS, hfS, hlS⟩ := bcell hL'); (try simp only [World.size_setCell, World.size_alloc, World.size_drew] at hcS hfS hlS); (go_simp); (try go_bits); (try (first | (rw [if_pos (by omega)]; done) | (rw [if_neg (by omega)]; done) | (rw [if_pos (by omega)]; go_simp) | (rw [if_neg (by omega)]; go_simp))); (first | with_reducible rfl | exact rfl | skip))); (simp only [Act.put, List.setIfInBounds_toArray, List.set_cons_zero, List.set_cons_succ]))
  ((apply rel_plain (hR := rfl) (hF := fun _ => trivial) (hg := rfl)); (focus ((intro w' hL'); (obtain ⟨hcS, hfS, hlS⟩ := bcell hL'); (try simp only [World.size_setCell, World.size_alloc, World.size_drew] at hcS hfS hlS); (go_simp); (try go_bits); (try (first | (rw [if_pos (by omega)]; done) | (rw [if_neg (by omega)]; done) | (rw [if_pos (by omega)]; go_simp) | (rw [if_neg (by omega)]; go_simp))); (first | with_reducible rfl | exact rfl | skip))); (simp only [Act.put, List.setIfInBounds_toArray, List.set_cons_zero, List.set_cons_succ]))
  ((apply rel_plain (hR := rfl) (hF := fun _ => trivial) (hg := rfl)); (focus ((intro w' hL'); (obtain ⟨hcS, hfS, hlS⟩ := bcell hL'); (try simp only [World.size_setCell, World.size_alloc, World.size_drew] at hcS hfS hlS); (go_simp); (try go_bits); (try (first | (rw [if_pos (by omega)]; done) | (rw [if_neg (by omega)]; done) | (rw [if_pos (by omega)]; go_simp) | (rw [if_neg (by omega)]; go_simp))); (first | with_reducible rfl | exact rfl | skip))); (simp only [Act.put, List.setIfInBounds_toArray, List.set_cons_zero, List.set_cons_succ]))
  ((apply rel_plain (hR := rfl) (hF := fun _ => trivial) (hg := rfl)); (focus ((intro w' hL'); (obtain ⟨hcS, hfS, hlS⟩ := bcell hL'); (try simp only [World.size_setCell, World.size_alloc, World.size_drew] at hcS hfS hlS); (go_simp); (try go_bits); (try (first | (rw [if_pos (by omega)]; done) | (rw [if_neg (by omega)]; done) | (rw [if_pos (by omega)]; go_simp) | (rw [if_neg (by omega)]; go_simp))); (first | with_reducible rfl | exact rfl | skip))); (simp only [Act.put, List.setIfInBounds_toArray, List.set_cons_zero, List.set_cons_succ]))
  ((apply rel_plain (hR := rfl) (hF := fun _ => trivial) (hg := rfl)); (focus ((intro w' hL'); (obtain ⟨hcS, hfS, hlS⟩ := bcell hL'); (try simp only [World.size_setCell, World.size_alloc, World.size_drew] at hcS hfS hlS); (go_simp); (try go_bits); (try (first | (rw [if_pos (by omega)]; done) | (rw [if_neg (by omega)]; done) | (rw [if_pos (by omega)]; go_simp) | (rw [if_neg (by omega)]; go_simp))); (first | with_reducible rfl | exact rfl | skip))); (simp only [Act.put, List.setIfInBounds_toArray, List.set_cons_zero, List.set_cons_succ]))
  ((apply rel_plain (hR := rfl) (hF := fun _ => trivial) (hg := rfl)); (focus ((intro w' hL'); (obtain ⟨hcS, hfS, hlS⟩ := bcell hL'); (try simp only [World.size_setCell, World.size_alloc, World.size_drew] at hcS hfS hlS); (go_simp); (try go_bits); (try (first | (rw [if_pos (by omega)]; done) | (rw [if_neg (by omega)]; done) | (rw [if_pos (by omega)]; go_simp) | (rw [if_neg (by omega)]; go_simp))); (first | with_reducible rfl | exact rfl | skip))); (simp only [Act.put, List.setIfInBounds_toArray, List.set_cons_zero, List.set_cons_succ]))
  ((apply rel_plain (hR := rfl) (hF := fun _ => trivial) (hg := rfl)); (focus ((intro w' hL'); (obtain ⟨hcS, hfS, hlS⟩ := bcell hL'); (try simp only [World.size_setCell, World.size_alloc, World.size_drew] at hcS hfS hlS); (go_simp); (try go_bits); (try (first | (rw [if_pos (by omega)]; done) | (rw [if_neg (by omega)]; done) | (rw [if_pos (by omega)]; go_simp) | (rw [if_neg (by omega)]; go_simp))); (first | with_reducible rfl | exact rfl | skip))); (simp only [Act.put, List.setIfInBounds_toArray, List.set_cons_zero, List.set_cons_succ]))
  ((apply rel_told (hR := rfl) (hg := rfl)); (focus ((intro w' hL' hD'); (obtain ⟨hcS, hfS, hlS⟩ := bcell hL'); (try simp only [World.size_setCell, World.size_alloc, World.size_drew] at hcS hfS hlS); (go_simp); (try go_bits); (try (first | (rw [if_pos (by omega)]; done) | (rw [if_neg (by omega)]; done) | (rw [if_pos (by omega)]; go_simp) | (rw [if_neg (by omega)]; go_simp))); ((go_at_call 71); (refine (HC _ (b_step hb hL')).mono ?_); (intro e w'' hM); (obtain ⟨A2, c2, e2, hO2, hg2, hB⟩ := hM.gop); (rw [hl2] at e2 hO2 hg2); (refine ⟨_, e2, hB, ?_⟩); ((repeat (first | (refine Tell.hit rfl ?_) | (refine Tell.skip rfl ?_))); exact ⟨A2, c2, rfl, hO2, fun k hk => Nat.le_trans hL'.size (hg2 k hk)⟩)))); (intro v' w0' hv'); (replace hv' := Tell.out hv' rfl); (obtain ⟨A2, c2, rfl, -⟩ := hv'); (simp only [Act.put, List.setIfInBounds_toArray, List.set_cons_zero, List.set_cons_succ]))
  ((apply rel_told (hR := rfl) (hg := rfl)); (focus ((intro w' hL' hD'); (obtain ⟨hcS, hfS, hlS⟩ := bcell hL'); (try simp only [World.size_setCell, World.size_alloc, World.size_drew] at hcS hfS hlS); (go_simp); (try go_bits); (try (first | (rw [if_pos (by omega)]; done) | (rw [if_neg (by omega)]; done) | (rw [if_pos (by omega)]; go_simp) | (rw [if_neg (by omega)]; go_simp))); (refine ⟨b_alloc (Below.refl _ _) _, ?_⟩; ((repeat (first | (refine Tell.hit rfl ?_) | (refine Tell.skip rfl ?_))); exact ⟨_, rfl, hL'.size, Blk.new _ _ _⟩)))); (intro v' w0' hv'); (replace hv' := Tell.out hv' rfl); (obtain ⟨g, rfl, hgw, -⟩ := hv'); (simp only [Act.put, List.setIfInBounds_toArray, List.set_cons_zero, List.set_cons_succ]))
  refine rel_nil ?_
  intro W2 hL2 hF2
  obtain ⟨w0, hl0, g', hg', -, kG⟩ := Known.out (hF2 12) rfl
  cases hg'
  obtain ⟨w8, hl8, A8, c8, e8, hO8, hg8⟩ := Known.out (hF2 11) rfl
  injection e8 with e8; injection e8 with e8; injection e8 with e8 e9; injection e9 with e9 e10; injection e10 with e10 e11; injection e10 with e10 e12 e13; subst e10 e13
  replace kP := kP.b hL2
  replace kR := kR.b hL2
  replace hb := b_step hb hL2
  have kX := kG.b hl0
  have hO := hO8.b hl8
  clear ekP fkP lkP
  clear gc gf gl hF2 hl0 kG hl8 hO8 HC
  have hAg := own_blk_ne hO kX (by decide)
  have hRl := kR.cells.2.2
  obtain ⟨ga, rfl⟩ := hO.someA (by rw [hl2]; omega)
  have hag : ga ≠ g := hAg ga rfl
  have hga : w.heap.size + 1 < ga := by have := hg8 ga rfl; omega
  clear hg8
  obtain ⟨ekX, fkX, lkX⟩ := kX.cells
  go_wp2_with fail
  refine wp_name (fun W => Below w.heap.size w W ∧ Blk W (w.heap.size + 1) #[.int .i64 0, .int .i64 0, .slice none 0 0, .int .i64 0, .int .i64 0] 43 ∧ Blk W g #[.int .i64 p.q, .int .i64 p.s, .slice (some ⟨ga, 0, none⟩) (p.steps.length - st) c2, .int .i64 p.fr, .int .i64 p.by_] 43 ∧ Own stepC 7 56 79 W (.slice (some ⟨ga, 0, none⟩) (p.steps.length - st) c2) (LL.tab (p.steps.length - st) (fun i => LL.nth p.steps (st + i)))) ⟨(by repeat' (first | with_reducible exact Below.refl _ _ | with_reducible assumption | with_reducible refine b_alloc ?_ _ | with_reducible refine b_drewN ?_ _ | with_reducible refine b_drew ?_ | with_reducible refine b_set ?_ (by first | (simp only [World.size_setCell, World.size_alloc, World.size_drew]; omega) | (simp; done) | (simp; omega)) _ | with_reducible refine b_step ?_ (by with_reducible assumption))), ((((kR.s (by simp only [ne_eq]; omega) _).s (by simp only [ne_eq]; omega) _).s (by simp only [ne_eq]; omega) _).s (by simp only [ne_eq]; omega) _).s (by simp only [ne_eq]; omega) _, by simpa using ((((kX.put 0 (.int .i64 p.q)).put 1 (.int .i64 p.s)).put 2 (.slice (some ⟨ga, 0, none⟩) (p.steps.length - st) c2)).put 3 (.int .i64 p.fr)).put 4 (.int .i64 p.by_), ((((hO.s _ (fun k hk => by have := hAg k hk; simp only; omega)).s _ (fun k hk => by have := hAg k hk; simp only; omega)).s _ (fun k hk => by have := hAg k hk; simp only; omega)).s _ (fun k hk => by have := hAg k hk; simp only; omega)).s _ (fun k hk => by have := hAg k hk; simp only; omega)⟩ ?_
  clear ekX fkX lkX
  clear hb kR kX hO
  rintro W3 ⟨hb, kR, kX, hO⟩
  obtain ⟨ekX, fkX, lkX⟩ := kX.cells
  have hSt := hO.St 0 (by omega)
  obtain ⟨c4, c5, f0, gl⟩ := hSt
  have hga2 : ∀ k, Value.ownBlock (.slice (some ⟨ga, 0, none⟩) (p.steps.length - st) c2) = some k → w.heap.size + 1 < k ∧ k ≠ g := fun k hk => by have := hAg k hk; injection hk with hk; simp only at hk; omega
  clear hAg
  have hm1 : 0 < p.steps.length - st := by omega
  have hgx : w.heap.size + 1 < g := by omega
  by_cases hm2 : 1 < p.steps.length - st
  · have hTfr : (LL.tlP p st fr by_ now).fr = p.fr := if_pos (by omega)
    generalize hm : p.steps.length - st = m at *
    have Hm := Lib.hid hm
    clear hm
    go_region
    (try simp only [List.getElem_toArray, List.getElem_cons_succ, List.getElem_cons_zero, Act.put, List.setIfInBounds_toArray, List.set_cons_zero, List.set_cons_succ])
    go_wp2_with fail
    refine wp_name (fun W => Below w.heap.size w W ∧ Blk W (w.heap.size + 1) #[.int .i64 0, .int .i64 0, .slice none 0 0, .int .i64 0, .int .i64 0] 43 ∧ Blk W g #[.int .i64 p.q, .int .i64 p.s, .slice (some ⟨ga, 0, none⟩) m c2, .int .i64 p.fr, .int .i64 p.by_] 43 ∧ Own stepC 7 56 79 W (.slice (some ⟨ga, 0, none⟩) m c2) (LL.tab m (LL.tl0 p st fr by_))) ⟨(by repeat' (first | with_reducible exact Below.refl _ _ | with_reducible assumption | with_reducible refine b_alloc ?_ _ | with_reducible refine b_drewN ?_ _ | with_reducible refine b_drew ?_ | with_reducible refine b_set ?_ (by first | (simp only [World.size_setCell, World.size_alloc, World.size_drew]; omega) | (simp; done) | (simp; omega)) _ | with_reducible refine b_step ?_ (by with_reducible assumption))), ((kR.s (by simp only [ne_eq]; omega) _).s (by simp only [ne_eq]; omega) _).d, ((kX.s (by simp only [ne_eq]; omega) _).s (by simp only [ne_eq]; omega) _).d, ((hO.updSt 0 hm1 4 (x := .int .i64 fr) (s := LL.setW (LL.nth p.steps st) fr (LL.nth p.steps st).by_) (by omega) rfl rfl).updSt 0 hm1 5 (x := .int .i64 by_) (s := LL.setW (LL.nth p.steps st) fr by_) (by omega) (by rw [LL.upd_same]; rfl) (LL.tl0_upd p st fr by_)).d⟩ ?_
    clear ekX fkX lkX
    clear hb kR kX hO c4 c5 f0 gl
    rintro W4 ⟨hb, kR, kX, hO⟩
    obtain ⟨ekX, fkX, lkX⟩ := kX.cells
    have hSt := hO.St 1 hm2
    obtain ⟨c4, c5, f0, gl⟩ := hSt
    go_region
    (try simp only [List.getElem_toArray, List.getElem_cons_succ, List.getElem_cons_zero, Act.put, List.setIfInBounds_toArray, List.set_cons_zero, List.set_cons_succ])
    go_wp2_with fail
    refine calls_name (fun W => Below w.heap.size w W ∧ Blk W (w.heap.size + 1) #[.int .i64 0, .int .i64 0, .slice none 0 0, .int .i64 0, .int .i64 0] 43 ∧ Blk W g #[.int .i64 p.q, .int .i64 p.s, .slice (some ⟨ga, 0, none⟩) m c2, .int .i64 p.fr, .int .i64 p.by_] 43 ∧ Own stepC 7 56 79 W (.slice (some ⟨ga, 0, none⟩) m c2) (LL.tab m (LL.tlF p st fr by_ now))) ⟨(by repeat' (first | with_reducible exact Below.refl _ _ | with_reducible assumption | with_reducible refine b_alloc ?_ _ | with_reducible refine b_drewN ?_ _ | with_reducible refine b_drew ?_ | with_reducible refine b_set ?_ (by first | (simp only [World.size_setCell, World.size_alloc, World.size_drew]; omega) | (simp; done) | (simp; omega)) _ | with_reducible refine b_step ?_ (by with_reducible assumption))), (kR.s (by simp only [ne_eq]; omega) _).d, (kX.s (by simp only [ne_eq]; omega) _).d, (hO.updSt 1 hm2 4 (x := .int .i64 (max (LL.nth p.steps (st + 1)).fr (now + 1))) (s := LL.setW (LL.nth p.steps (st + 1)) (max (LL.nth p.steps (st + 1)).fr (now + 1)) (LL.nth p.steps (st + 1)).by_) (by omega) rfl (LL.tl1_upd p st fr by_ now)).d⟩ ?_
    clear ekX fkX lkX
    clear hb kR kX hO c4 c5 f0 gl
    rintro W5 ⟨hb, kR, kX, hO⟩
    have hTl : (LL.tlP p st fr by_ now).steps.length = m := (LL.tlP_len _ _ _ _ _).trans Hm.out
    have hTs : (LL.tlP p st fr by_ now).steps = LL.tab m (LL.tlF p st fr by_ now) := by rw [← Hm.out]; rfl
    have HC := fun W h => impl_FlySpans_c (LL.tlP p st fr by_ now) (some ⟨ga, 0, none⟩) c2 W h
    simp only [hTl, hTfr] at HC
    refine (HC _ (by rw [hTs]; exact hO.rd_at' stepE)).mono ?_
    clear HC
    intro e W6 hM
    obtain ⟨As, cs, rfl, -, -, hB⟩ := hM.go2 spanE
    clear hM
    replace hb := b_step hb hB; replace kR := kR.b hB; replace kX := kX.b hB; replace hO := hO.b hB; clear hB
    have hIff := LL.tlP_flies (now := now) hP hst hf hby
    obtain ⟨ekR, fkR, lkR⟩ := kR.cells; obtain ⟨ekX, fkX, lkX⟩ := kX.cells
    by_cases hS : LL.SpansOk (LL.tlP p st fr by_ now)
    · rw [decide_eq_true (hIff.2 hS)]
      go_wp2_with fail
      (refine bodyPost_ret (res_ct rfl _ [.int .i64 p.q, .int .i64 p.s, .slice (some ⟨ga, 0, none⟩) m c2, .int .i64 p.fr, .int .i64 p.by_] rfl _ rfl _ Try.underlying43 rfl (by kernel_rfl) (by simp only [CellsAt, and_true]; and_intros <;> go_simp)) rfl ?_)
      rw [LL.leftM_yes hS, decide_eq_true hS]
      refine ⟨.slice (some ⟨ga, 0, none⟩) m c2, by rw [hTfr]; rfl, by rw [hTs]; exact ((((hO.s _ (fun k hk => by have := hga2 k hk; simp only; omega)).s _ (fun k hk => by have := hga2 k hk; simp only; omega)).s _ (fun k hk => by have := hga2 k hk; simp only; omega)).s _ (fun k hk => by have := hga2 k hk; simp only; omega)).s _ (fun k hk => by have := hga2 k hk; simp only; omega), fun k hk => by have := hga2 k hk; omega, (by repeat' (first | with_reducible exact Below.refl _ _ | with_reducible assumption | with_reducible refine b_alloc ?_ _ | with_reducible refine b_drewN ?_ _ | with_reducible refine b_drew ?_ | with_reducible refine b_set ?_ (by first | (simp only [World.size_setCell, World.size_alloc, World.size_drew]; omega) | (simp; done) | (simp; omega)) _ | with_reducible refine b_step ?_ (by with_reducible assumption)))⟩
    · rw [decide_eq_false (fun h9 => hS (hIff.1 h9))]
      go_wp2_with fail
      (refine bodyPost_ret (res_ct rfl _ [.int .i64 0, .int .i64 0, .slice none 0 0, .int .i64 0, .int .i64 0] rfl _ rfl _ Try.underlying43 rfl (by kernel_rfl) (by simp only [CellsAt, and_true]; and_intros <;> go_simp)) rfl ?_)
      rw [LL.leftM_no hS, decide_eq_false hS]
      exact MkPB.none (by repeat' (first | with_reducible exact Below.refl _ _ | with_reducible assumption | with_reducible refine b_alloc ?_ _ | with_reducible refine b_drewN ?_ _ | with_reducible refine b_drew ?_ | with_reducible refine b_set ?_ (by first | (simp only [World.size_setCell, World.size_alloc, World.size_drew]; omega) | (simp; done) | (simp; omega)) _ | with_reducible refine b_step ?_ (by with_reducible assumption)))
  · have hTfr : (LL.tlP p st fr by_ now).fr = max p.fr (now + 1) := if_neg (by omega)
    generalize hm : p.steps.length - st = m at *
    have Hm := Lib.hid hm
    clear hm
    go_region
    (try simp only [List.getElem_toArray, List.getElem_cons_succ, List.getElem_cons_zero, Act.put, List.setIfInBounds_toArray, List.set_cons_zero, List.set_cons_succ])
    go_wp2_with fail
    refine calls_name (fun W => Below w.heap.size w W ∧ Blk W (w.heap.size + 1) #[.int .i64 0, .int .i64 0, .slice none 0 0, .int .i64 0, .int .i64 0] 43 ∧ Blk W g #[.int .i64 p.q, .int .i64 p.s, .slice (some ⟨ga, 0, none⟩) m c2, .int .i64 (max p.fr (now + 1)), .int .i64 p.by_] 43 ∧ Own stepC 7 56 79 W (.slice (some ⟨ga, 0, none⟩) m c2) (LL.tab m (LL.tlF p st fr by_ now))) ⟨(by repeat' (first | with_reducible exact Below.refl _ _ | with_reducible assumption | with_reducible refine b_alloc ?_ _ | with_reducible refine b_drewN ?_ _ | with_reducible refine b_drew ?_ | with_reducible refine b_set ?_ (by first | (simp only [World.size_setCell, World.size_alloc, World.size_drew]; omega) | (simp; done) | (simp; omega)) _ | with_reducible refine b_step ?_ (by with_reducible assumption))), (((kR.s (by simp only [ne_eq]; omega) _).s (by simp only [ne_eq]; omega) _).s (by simp only [ne_eq]; omega) _).d, by simpa using (((kX.s (by simp only [ne_eq]; omega) _).s (by simp only [ne_eq]; omega) _).put 3 (.int .i64 (max p.fr (now + 1)))).d, ?_⟩ ?_
    · rw [← LL.tl_one p st fr by_ now m (by omega)]
      exact (((hO.updSt 0 hm1 4 (x := .int .i64 fr) (s := LL.setW (LL.nth p.steps st) fr (LL.nth p.steps st).by_) (by omega) rfl rfl).updSt 0 hm1 5 (x := .int .i64 by_) (s := LL.setW (LL.nth p.steps st) fr by_) (by omega) (by rw [LL.upd_same]; rfl) (LL.tl0_upd p st fr by_)).s _ (fun k hk => by have := hga2 k hk; simp only; omega)).d
    clear ekX fkX lkX
    clear hb kR kX hO c4 c5 f0 gl
    rintro W5 ⟨hb, kR, kX, hO⟩
    have hTl : (LL.tlP p st fr by_ now).steps.length = m := (LL.tlP_len _ _ _ _ _).trans Hm.out
    have hTs : (LL.tlP p st fr by_ now).steps = LL.tab m (LL.tlF p st fr by_ now) := by rw [← Hm.out]; rfl
    have HC := fun W h => impl_FlySpans_c (LL.tlP p st fr by_ now) (some ⟨ga, 0, none⟩) c2 W h
    simp only [hTl, hTfr] at HC
    refine (HC _ (by rw [hTs]; exact hO.rd_at' stepE)).mono ?_
    clear HC
    intro e W6 hM
    obtain ⟨As, cs, rfl, -, -, hB⟩ := hM.go2 spanE
    clear hM
    replace hb := b_step hb hB; replace kR := kR.b hB; replace kX := kX.b hB; replace hO := hO.b hB; clear hB
    have hIff := LL.tlP_flies (now := now) hP hst hf hby
    obtain ⟨ekR, fkR, lkR⟩ := kR.cells; obtain ⟨ekX, fkX, lkX⟩ := kX.cells
    by_cases hS : LL.SpansOk (LL.tlP p st fr by_ now)
    · rw [decide_eq_true (hIff.2 hS)]
      go_wp2_with fail
      (refine bodyPost_ret (res_ct rfl _ [.int .i64 p.q, .int .i64 p.s, .slice (some ⟨ga, 0, none⟩) m c2, .int .i64 (max p.fr (now + 1)), .int .i64 p.by_] rfl _ rfl _ Try.underlying43 rfl (by kernel_rfl) (by simp only [CellsAt, and_true]; and_intros <;> go_simp)) rfl ?_)
      rw [LL.leftM_yes hS, decide_eq_true hS]
      refine ⟨.slice (some ⟨ga, 0, none⟩) m c2, by rw [hTfr]; rfl, by rw [hTs]; exact ((((hO.s _ (fun k hk => by have := hga2 k hk; simp only; omega)).s _ (fun k hk => by have := hga2 k hk; simp only; omega)).s _ (fun k hk => by have := hga2 k hk; simp only; omega)).s _ (fun k hk => by have := hga2 k hk; simp only; omega)).s _ (fun k hk => by have := hga2 k hk; simp only; omega), fun k hk => by have := hga2 k hk; omega, (by repeat' (first | with_reducible exact Below.refl _ _ | with_reducible assumption | with_reducible refine b_alloc ?_ _ | with_reducible refine b_drewN ?_ _ | with_reducible refine b_drew ?_ | with_reducible refine b_set ?_ (by first | (simp only [World.size_setCell, World.size_alloc, World.size_drew]; omega) | (simp; done) | (simp; omega)) _ | with_reducible refine b_step ?_ (by with_reducible assumption)))⟩
    · rw [decide_eq_false (fun h9 => hS (hIff.1 h9))]
      go_wp2_with fail
      (refine bodyPost_ret (res_ct rfl _ [.int .i64 0, .int .i64 0, .slice none 0 0, .int .i64 0, .int .i64 0] rfl _ rfl _ Try.underlying43 rfl (by kernel_rfl) (by simp only [CellsAt, and_true]; and_intros <;> go_simp)) rfl ?_)
      rw [LL.leftM_no hS, decide_eq_false hS]
      exact MkPB.none (by repeat' (first | with_reducible exact Below.refl _ _ | with_reducible assumption | with_reducible refine b_alloc ?_ _ | with_reducible refine b_drewN ?_ _ | with_reducible refine b_drew ?_ | with_reducible refine b_set ?_ (by first | (simp only [World.size_setCell, World.size_alloc, World.size_drew]; omega) | (simp; done) | (simp; omega)) _ | with_reducible refine b_step ?_ (by with_reducible assumption)))
end Go.Proofs.Ytpeojnknfonmlaa
