/- Spans, the first and the last flight, of the program and of the reference. -/
import Derived.Test.YtpeojnknfonmlaaS3
import Derived.Test.YtpeojnknfonmlaaS4
import Derived.Test.YtpeojnknfonmlaaJ5
import Derived.Test.YtpeojnknfonmlaaX5

set_option linter.unusedVariables false
set_option linter.unusedSimpArgs false
namespace Go.Proofs.Ytpeojnknfonmlaa
open Go.RowKit
attribute [local go_sem] w_lt_add w_le_of w_le_add max2_i min2_i
set_option maxHeartbeats 1000000 in
theorem spec_FlySpans_c (p : LL.Path) (A : Option Addr) (c : Nat) (w : World) (h : RdS w A p.steps.length c p.steps) : Calls Try.prog 33 #[.agg #[.int .i64 p.q, .int .i64 p.s, .slice A p.steps.length c, .int .i64 p.fr, .int .i64 p.by_]] w (Mk2 spanC 2 16 60 w (LL.spansM p) (decide (LL.Flies p))) := by
  by_cases hP : LL.PathOk p
  · go_enter Try.func33, Try.ntmps33
    go_wp2_with (first | (go_at_call 26; go_loud (refine (spec_FlyPathOk_c _ _ _ _ (by exact Rd.mono (by with_reducible assumption) (by repeat' (first | with_reducible exact Below.refl _ _ | with_reducible assumption | with_reducible refine b_alloc ?_ _ | with_reducible refine b_drewN ?_ _ | with_reducible refine b_drew ?_ | with_reducible refine b_set ?_ (by first | (simp only [World.size_setCell, World.size_alloc, World.size_drew]; omega) | (simp; done) | (simp; omega)) _ | with_reducible refine b_step ?_ (by with_reducible assumption))))).mono ?_); rintro e w1 ⟨rfl, hb⟩; (repeat (with_reducible first | replace hb := b_un hb | replace hb := b_unN hb)); obtain ⟨hc, hf, hl⟩ := bcell hb; obtain ⟨gc, gf, gl⟩ := bcell (b_step (w := w) (by repeat' (first | with_reducible exact Below.refl _ _ | with_reducible assumption | with_reducible refine b_alloc ?_ _ | with_reducible refine b_drewN ?_ _ | with_reducible refine b_drew ?_ | with_reducible refine b_set ?_ (by first | (simp only [World.size_setCell, World.size_alloc, World.size_drew]; omega) | (simp; done) | (simp; omega)) _ | with_reducible refine b_step ?_ (by with_reducible assumption))) hb); have hz := hb.size; (try simp at hz); have yw1_0 : w.heap.size < w1.heap.size := (by omega)) | (go_at_call 79; go_loud (refine (spec_l4Spans_c p A c _ hP.win (by exact Rd.mono (by with_reducible assumption) (by repeat' (first | with_reducible exact Below.refl _ _ | with_reducible assumption | with_reducible refine b_alloc ?_ _ | with_reducible refine b_drewN ?_ _ | with_reducible refine b_drew ?_ | with_reducible refine b_set ?_ (by first | (simp only [World.size_setCell, World.size_alloc, World.size_drew]; omega) | (simp; done) | (simp; omega)) _ | with_reducible refine b_step ?_ (by with_reducible assumption))))).mono ?_); rintro e w2 ⟨v, rfl, hO, hge, hb2⟩))
    go_ret2
    have e1 : LL.spansM p = LL.spansR p := by unfold LL.spansM LL.spansR LL.Flies; by_cases h9 : LL.SpansOk p <;> simp [hP, h9]
    exact mk2_mk (by rw [e1]; exact hO) (by simp [LL.Flies, hP]) (fun k hk => by have := hge k hk; omega) (by repeat' (first | with_reducible exact Below.refl _ _ | with_reducible assumption | with_reducible refine b_alloc ?_ _ | with_reducible refine b_drewN ?_ _ | with_reducible refine b_drew ?_ | with_reducible refine b_set ?_ (by first | (simp only [World.size_setCell, World.size_alloc, World.size_drew]; omega) | (simp; done) | (simp; omega)) _ | with_reducible refine b_step ?_ (by with_reducible assumption)))
  · go_enter Try.func33, Try.ntmps33
    go_wp2_with (go_at_call 26; go_loud (refine (spec_FlyPathOk_c _ _ _ _ (by exact Rd.mono (by with_reducible assumption) (by repeat' (first | with_reducible exact Below.refl _ _ | with_reducible assumption | with_reducible refine b_alloc ?_ _ | with_reducible refine b_drewN ?_ _ | with_reducible refine b_drew ?_ | with_reducible refine b_set ?_ (by first | (simp only [World.size_setCell, World.size_alloc, World.size_drew]; omega) | (simp; done) | (simp; omega)) _ | with_reducible refine b_step ?_ (by with_reducible assumption))))).mono ?_); rintro e w1 ⟨rfl, hb⟩; (repeat (with_reducible first | replace hb := b_un hb | replace hb := b_unN hb)); obtain ⟨hc, hf, hl⟩ := bcell hb; obtain ⟨gc, gf, gl⟩ := bcell (b_step (w := w) (by repeat' (first | with_reducible exact Below.refl _ _ | with_reducible assumption | with_reducible refine b_alloc ?_ _ | with_reducible refine b_drewN ?_ _ | with_reducible refine b_drew ?_ | with_reducible refine b_set ?_ (by first | (simp only [World.size_setCell, World.size_alloc, World.size_drew]; omega) | (simp; done) | (simp; omega)) _ | with_reducible refine b_step ?_ (by with_reducible assumption))) hb); have hz := hb.size; (try simp at hz); have yw1_0 : w.heap.size < w1.heap.size := (by omega))
    go_ret2
    exact mk2_mk (by rw [LL.spansM_no (fun h => hP h.1)]; exact Own.made' (by simp)) (dec_f (fun h => hP h.1)) (fun b h' => by have := hz; simp [Value.ownBlock] at h'; omega) (by repeat' (first | with_reducible exact Below.refl _ _ | with_reducible assumption | with_reducible refine b_alloc ?_ _ | with_reducible refine b_drewN ?_ _ | with_reducible refine b_drew ?_ | with_reducible refine b_set ?_ (by first | (simp only [World.size_setCell, World.size_alloc, World.size_drew]; omega) | (simp; done) | (simp; omega)) _ | with_reducible refine b_step ?_ (by with_reducible assumption)))
end Go.Proofs.Ytpeojnknfonmlaa

/- The first and the last flight. -/
set_option linter.unusedVariables false
set_option linter.unusedSimpArgs false
namespace Go.Proofs.Ytpeojnknfonmlaa
open Go.RowKit
attribute [local go_sem] w_lt_add w_le_of w_le_add max2_i min2_i
def LL.firstM (p : LL.Path) : List Int := (LL.spansM p).map (·.lo)
def LL.lastM (p : LL.Path) : List Int := (LL.spansM p).map (·.hi)
theorem LL.map_tab {α β : Type} (xs : List α) (d : α) (f : α → β) : xs.map f = LL.tab xs.length fun i => f (xs.getD i d) := by
  apply List.ext_getElem?
  intro i
  by_cases h : i < xs.length <;> simp [LL.tab, h, List.getD_eq_getElem?_getD]
theorem own_two {v v' : Value} {n m : Nat} (h : v.ownBlock = v'.ownBlock ∨ v.ownBlock = some n) {b : Nat} (hb : v.ownBlock = some b) (P : Nat → Prop) (h1 : ∀ k, v'.ownBlock = some k → P k) (h2 : P n) : P b := by
  rcases h with h | h
  · exact h1 b (h ▸ hb)
  · rw [h] at hb; cases hb; exact h2
theorem LL.map_len {α β : Type} (xs : List α) (f : α → β) : (xs.map f).length = xs.length := List.length_map ..
set_option maxRecDepth 100000 in
set_option maxHeartbeats 2000000 in
theorem impl_FlyFirst_c (p : LL.Path) (A : Option Addr) (c : Nat) (w : World) (h : RdS w A p.steps.length c p.steps) : Calls Try.prog 22 #[.agg #[.int .i64 p.q, .int .i64 p.s, .slice A p.steps.length c, .int .i64 p.fr, .int .i64 p.by_]] w (Mk intC 1 8 3 w (LL.firstM p)) := by
  unfold LL.firstM
  generalize hxs : LL.spansM p = xs
  have Hxs := Lib.hid hxs
  clear hxs
  go_enter Try.func22, Try.ntmps22
  go_wp2_with (go_at_call 24; go_loud (refine (impl_FlySpans_c p A c _ (by exact Rd.mono (by with_reducible assumption) (by repeat' (first | with_reducible exact Below.refl _ _ | with_reducible assumption | with_reducible refine b_alloc ?_ _ | with_reducible refine b_drewN ?_ _ | with_reducible refine b_drew ?_ | with_reducible refine b_set ?_ (by first | (simp only [World.size_setCell, World.size_alloc, World.size_drew]; omega) | (simp; done) | (simp; omega)) _ | with_reducible refine b_step ?_ (by with_reducible assumption))))).mono ?_); intro e w2 hM; rw [Hxs.out] at hM; obtain ⟨As, cs, rfl, hS, hSg, hB⟩ := hM.go2 spanE; have hz := hB.size; (try simp only [World.size_alloc] at hz hSg))
  have hroom := hS.room
  have hb := b_step (w := w) (by repeat' (first | with_reducible exact Below.refl _ _ | with_reducible assumption | with_reducible refine b_alloc ?_ _ | with_reducible refine b_drewN ?_ _ | with_reducible refine b_drew ?_ | with_reducible refine b_set ?_ (by first | (simp only [World.size_setCell, World.size_alloc, World.size_drew]; omega) | (simp; done) | (simp; omega)) _ | with_reducible refine b_step ?_ (by with_reducible assumption))) hB
  have hB0 := hB
  clear Hxs hB
  go_loopw [5, 16] (fun o i wr => ∃ k : Nat, k ≤ xs.length ∧ i = .int .i64 k ∧ Own intC 1 8 3 wr o (LL.tab k (fun i => (xs.getD i LL.sp0).lo)) ∧ Own spanC 2 16 60 wr (.slice As xs.length cs) xs ∧ (∀ b, o.ownBlock = some b → w.heap.size ≤ b ∧ Value.ownBlock (.slice As xs.length cs) ≠ some b) ∧ Below w.heap.size w wr) (fun _ i _ => xs.length - (intOf i).toNat)
  case atStart => exact ⟨0, Nat.zero_le _, rfl, by rw [LL.tab_zero]; exact Own.made' (by simp), hS.a _, (fun b hb => by simp [Value.ownBlock] at hb; subst hb; exact ⟨by omega, fun e => by have := (hS.row.lt _ e).2; omega⟩), (by repeat' (first | with_reducible exact Below.refl _ _ | with_reducible assumption | with_reducible refine b_alloc ?_ _ | with_reducible refine b_drewN ?_ _ | with_reducible refine b_drew ?_ | with_reducible refine b_set ?_ (by first | (simp only [World.size_setCell, World.size_alloc, World.size_drew]; omega) | (simp; done) | (simp; omega)) _ | with_reducible refine b_step ?_ (by with_reducible assumption)))⟩
  case round =>
    clear hS hb hz hB0
    obtain ⟨k, hk, rfl, hO, hS, hge, hb⟩ := hrel
    by_cases hlt : k < xs.length
    · obtain ⟨g, rfl⟩ := hS.someA (by omega)
      have h2 := (hS.rd_at' spanE).S2 k hlt
      simp only [Nat.zero_add] at h2
      obtain ⟨c0, c1⟩ := h2
      have hgl := (hS.row.lt _ rfl).2
      dsimp only at hgl
      go_wp2_with ((at_builtin; go_loud (refine wp_app (bytes := 8) (e := 3) rfl _ _ _ rfl intE (.int .i64 0) Try.underlying49 (by kernel_rfl) rfl (by decide) (v := u5) rfl ((hO.a _).a _) rfl (Rd.one (x := ((xs.getD k LL.sp0).lo : Int)) (Blk.new' _ _ (by simp)) rfl (by decide)) (by rw [LL.tab_len]; omega) ?_); intro v7 w7 hO7 hg7 hat7))
      rw [LL.tab_snoc k (fun i => (xs.getD i LL.sp0).lo)] at hO7
      have hz := hg7.size
      (try simp only [World.size_alloc] at hz hat7)
      go_roundw
      case rel => exact ⟨k + 1, by omega, by go_num, hO7, Own.grown ((hS.a _).a _) hg7 (by
        cases hv : u5.ownBlock with
        | none => exact .inr (by simp [Value.ownBlock])
        | some b => exact .inr (hge b hv).2), (fun b hb => own_two (n := _) (m := 0) hat7 hb (fun b => w.heap.size ≤ b ∧ Value.ownBlock (.slice (some ⟨g, 0, none⟩) xs.length cs) ≠ some b) hge ⟨by have := ‹Below w.heap.size w wr›.size; omega, by simp [Value.ownBlock]; omega⟩), b_grown' (w := w) (by repeat' (first | with_reducible exact Below.refl _ _ | with_reducible assumption | with_reducible refine b_alloc ?_ _ | with_reducible refine b_drewN ?_ _ | with_reducible refine b_drew ?_ | with_reducible refine b_set ?_ (by first | (simp only [World.size_setCell, World.size_alloc, World.size_drew]; omega) | (simp; done) | (simp; omega)) _ | with_reducible refine b_step ?_ (by with_reducible assumption))) hg7 (by have := hb.size; simp; omega) (fun g' hg' => (hge _ hg').1)⟩
      case measure => simp [intOf]; omega
    · obtain rfl : k = xs.length := by omega
      go_wp2
      go_ret
      refine ⟨_, rfl, by rw [LL.map_tab xs LL.sp0]; exact hO, fun b hb => (hge b hb).1, hb⟩
set_option maxRecDepth 100000 in
set_option maxHeartbeats 2000000 in
theorem impl_FlyLast_c (p : LL.Path) (A : Option Addr) (c : Nat) (w : World) (h : RdS w A p.steps.length c p.steps) : Calls Try.prog 37 #[.agg #[.int .i64 p.q, .int .i64 p.s, .slice A p.steps.length c, .int .i64 p.fr, .int .i64 p.by_]] w (Mk intC 1 8 3 w (LL.lastM p)) := by
  unfold LL.lastM
  generalize hxs : LL.spansM p = xs
  have Hxs := Lib.hid hxs
  clear hxs
  go_enter Try.func37, Try.ntmps37
  go_wp2_with (go_at_call 24; go_loud (refine (impl_FlySpans_c p A c _ (by exact Rd.mono (by with_reducible assumption) (by repeat' (first | with_reducible exact Below.refl _ _ | with_reducible assumption | with_reducible refine b_alloc ?_ _ | with_reducible refine b_drewN ?_ _ | with_reducible refine b_drew ?_ | with_reducible refine b_set ?_ (by first | (simp only [World.size_setCell, World.size_alloc, World.size_drew]; omega) | (simp; done) | (simp; omega)) _ | with_reducible refine b_step ?_ (by with_reducible assumption))))).mono ?_); intro e w2 hM; rw [Hxs.out] at hM; obtain ⟨As, cs, rfl, hS, hSg, hB⟩ := hM.go2 spanE; have hz := hB.size; (try simp only [World.size_alloc] at hz hSg))
  have hroom := hS.room
  have hb := b_step (w := w) (by repeat' (first | with_reducible exact Below.refl _ _ | with_reducible assumption | with_reducible refine b_alloc ?_ _ | with_reducible refine b_drewN ?_ _ | with_reducible refine b_drew ?_ | with_reducible refine b_set ?_ (by first | (simp only [World.size_setCell, World.size_alloc, World.size_drew]; omega) | (simp; done) | (simp; omega)) _ | with_reducible refine b_step ?_ (by with_reducible assumption))) hB
  have hB0 := hB
  clear Hxs hB
  go_loopw [5, 16] (fun o i wr => ∃ k : Nat, k ≤ xs.length ∧ i = .int .i64 k ∧ Own intC 1 8 3 wr o (LL.tab k (fun i => (xs.getD i LL.sp0).hi)) ∧ Own spanC 2 16 60 wr (.slice As xs.length cs) xs ∧ (∀ b, o.ownBlock = some b → w.heap.size ≤ b ∧ Value.ownBlock (.slice As xs.length cs) ≠ some b) ∧ Below w.heap.size w wr) (fun _ i _ => xs.length - (intOf i).toNat)
  case atStart => exact ⟨0, Nat.zero_le _, rfl, by rw [LL.tab_zero]; exact Own.made' (by simp), hS.a _, (fun b hb => by simp [Value.ownBlock] at hb; subst hb; exact ⟨by omega, fun e => by have := (hS.row.lt _ e).2; omega⟩), (by repeat' (first | with_reducible exact Below.refl _ _ | with_reducible assumption | with_reducible refine b_alloc ?_ _ | with_reducible refine b_drewN ?_ _ | with_reducible refine b_drew ?_ | with_reducible refine b_set ?_ (by first | (simp only [World.size_setCell, World.size_alloc, World.size_drew]; omega) | (simp; done) | (simp; omega)) _ | with_reducible refine b_step ?_ (by with_reducible assumption)))⟩
  case round =>
    clear hS hb hz hB0
    obtain ⟨k, hk, rfl, hO, hS, hge, hb⟩ := hrel
    by_cases hlt : k < xs.length
    · obtain ⟨g, rfl⟩ := hS.someA (by omega)
      have h2 := (hS.rd_at' spanE).S2 k hlt
      simp only [Nat.zero_add] at h2
      obtain ⟨c0, c1⟩ := h2
      have hgl := (hS.row.lt _ rfl).2
      dsimp only at hgl
      go_wp2_with ((at_builtin; go_loud (refine wp_app (bytes := 8) (e := 3) rfl _ _ _ rfl intE (.int .i64 0) Try.underlying49 (by kernel_rfl) rfl (by decide) (v := u5) rfl ((hO.a _).a _) rfl (Rd.one (x := ((xs.getD k LL.sp0).hi : Int)) (Blk.new' _ _ (by simp)) rfl (by decide)) (by rw [LL.tab_len]; omega) ?_); intro v7 w7 hO7 hg7 hat7))
      rw [LL.tab_snoc k (fun i => (xs.getD i LL.sp0).hi)] at hO7
      have hz := hg7.size
      (try simp only [World.size_alloc] at hz hat7)
      go_roundw
      case rel => exact ⟨k + 1, by omega, by go_num, hO7, Own.grown ((hS.a _).a _) hg7 (by
        cases hv : u5.ownBlock with
        | none => exact .inr (by simp [Value.ownBlock])
        | some b => exact .inr (hge b hv).2), (fun b hb => own_two (n := _) (m := 0) hat7 hb (fun b => w.heap.size ≤ b ∧ Value.ownBlock (.slice (some ⟨g, 0, none⟩) xs.length cs) ≠ some b) hge ⟨by have := ‹Below w.heap.size w wr›.size; omega, by simp [Value.ownBlock]; omega⟩), b_grown' (w := w) (by repeat' (first | with_reducible exact Below.refl _ _ | with_reducible assumption | with_reducible refine b_alloc ?_ _ | with_reducible refine b_drewN ?_ _ | with_reducible refine b_drew ?_ | with_reducible refine b_set ?_ (by first | (simp only [World.size_setCell, World.size_alloc, World.size_drew]; omega) | (simp; done) | (simp; omega)) _ | with_reducible refine b_step ?_ (by with_reducible assumption))) hg7 (by have := hb.size; simp; omega) (fun g' hg' => (hge _ hg').1)⟩
      case measure => simp [intOf]; omega
    · obtain rfl : k = xs.length := by omega
      go_wp2
      go_ret
      refine ⟨_, rfl, by rw [LL.map_tab xs LL.sp0]; exact hO, fun b hb => (hge b hb).1, hb⟩
end Go.Proofs.Ytpeojnknfonmlaa

/- The tube of a path. -/
set_option linter.unusedVariables false
set_option linter.unusedSimpArgs false
namespace Go.Proofs.Ytpeojnknfonmlaa
open Go.RowKit
attribute [local go_sem] w_lt_add w_le_of w_le_add max2_i min2_i
namespace LL
/-- the box of a step -/
def boxAt (p : Path) (k : Nat) : Box := ⟨(nth p.steps k).x, (nth p.steps k).y, (nth p.steps k).lo, (nth p.steps k).hi, lo p k, hi p (k + 1) - 1⟩
def tubeM (p : Path) : List Box := if Flies p then tab p.steps.length (boxAt p) else []
theorem tubeM_no {p : Path} (h : ¬ Flies p) : tubeM p = [] := if_neg h
theorem tubeM_yes {p : Path} (h : Flies p) : tubeM p = tab p.steps.length (boxAt p) := if_pos h
theorem spans_at (p : Path) (k : Nat) (h : k ≤ p.steps.length) : nthP (spans p) k = ⟨lo p k, hi p k⟩ := tab_getD (by omega)
end LL
set_option maxRecDepth 100000 in
set_option maxHeartbeats 4000000 in
theorem impl_FlyTube_c (p : LL.Path) (A : Option Addr) (c : Nat) (w : World) (h : RdS w A p.steps.length c p.steps) : Calls Try.prog 25 #[.agg #[.int .i64 p.q, .int .i64 p.s, .slice A p.steps.length c, .int .i64 p.fr, .int .i64 p.by_]] w (Mk boxC 6 48 62 w (LL.tubeM p)) := by
  by_cases hP : LL.Flies p
  · rw [LL.tubeM_yes hP]
    have hroom := h.room
    have hn1 : p.steps.length ≤ 40 := by have := hP.1.2.1.2; omega
    have W := hP.1.win
    go_enter Try.func25, Try.ntmps25
    go_wp2_with (go_at_call 24; go_loud (refine (impl_FlySpans_c p A c _ (by exact Rd.mono (by with_reducible assumption) (by repeat' (first | with_reducible exact Below.refl _ _ | with_reducible assumption | with_reducible refine b_alloc ?_ _ | with_reducible refine b_drewN ?_ _ | with_reducible refine b_drew ?_ | with_reducible refine b_set ?_ (by first | (simp only [World.size_setCell, World.size_alloc, World.size_drew]; omega) | (simp; done) | (simp; omega)) _ | with_reducible refine b_step ?_ (by with_reducible assumption))))).mono ?_); intro e w2 hM; rw [LL.spansM_yes hP] at hM; obtain ⟨As, cs, rfl, hS, hSg, hB⟩ := hM.go2 spanE; have hB9 := bcell hB; obtain ⟨hc9, hf9, hl9⟩ := hB9; have hz := hB.size; (try simp only [World.size_alloc] at hz hSg))
    have hb := b_step (w := w) (by repeat' (first | with_reducible exact Below.refl _ _ | with_reducible assumption | with_reducible refine b_alloc ?_ _ | with_reducible refine b_drewN ?_ _ | with_reducible refine b_drew ?_ | with_reducible refine b_set ?_ (by first | (simp only [World.size_setCell, World.size_alloc, World.size_drew]; omega) | (simp; done) | (simp; omega)) _ | with_reducible refine b_step ?_ (by with_reducible assumption))) hB
    have hB0 := hB
    have kP0 := Blk.new w #[.int .i64 p.q, .int .i64 p.s, .slice A p.steps.length c, .int .i64 p.fr, .int .i64 p.by_] 43
    clear hB hc9 hf9 hl9
    go_loopw [5, 19] (fun o i wr => ∃ k : Nat, k ≤ p.steps.length ∧ i = .int .i64 k ∧ Own boxC 6 48 62 wr o (LL.tab k (LL.boxAt p)) ∧ Own spanC 2 16 60 wr (.slice As (LL.spans p).length cs) (LL.spans p) ∧ (∀ b, o.ownBlock = some b → w.heap.size + 1 ≤ b ∧ Value.ownBlock (.slice As (LL.spans p).length cs) ≠ some b) ∧ Blk wr w.heap.size #[.int .i64 p.q, .int .i64 p.s, .slice A p.steps.length c, .int .i64 p.fr, .int .i64 p.by_] 43 ∧ Below w.heap.size w wr) (fun _ i _ => p.steps.length - (intOf i).toNat)
    case atStart => exact ⟨0, Nat.zero_le _, rfl, by rw [LL.tab_zero]; exact Own.made' (by simp), hS.a _, (fun b hb => by simp [Value.ownBlock] at hb; subst hb; exact ⟨by omega, fun e => by have := (hS.row.lt _ e).2; omega⟩), (kP0.b hB0).a _, (by repeat' (first | with_reducible exact Below.refl _ _ | with_reducible assumption | with_reducible refine b_alloc ?_ _ | with_reducible refine b_drewN ?_ _ | with_reducible refine b_drew ?_ | with_reducible refine b_set ?_ (by first | (simp only [World.size_setCell, World.size_alloc, World.size_drew]; omega) | (simp; done) | (simp; omega)) _ | with_reducible refine b_step ?_ (by with_reducible assumption)))⟩
    case round =>
      clear hS hb hz hB0 kP0
      obtain ⟨k, hk, rfl, hO, hS, hge, kP, hb⟩ := hrel
      obtain ⟨eP, fP, lP⟩ := kP.cells
      by_cases hlt : k < p.steps.length
      · obtain ⟨b, off, rfl, hbw⟩ := h.addr (by omega)
        obtain ⟨c0, c1, c2, c3, c4, c5, c6⟩ := h.S7 k hlt
        obtain ⟨gc, gf, gl⟩ := bcell hb
        obtain ⟨g, rfl⟩ := hS.someA (by simp [LL.spans, LL.tab_len])
        have hlen : (LL.spans p).length = p.steps.length + 1 := LL.tab_len _ _
        have h2 := (hS.rd_at' spanE).S2 k (by omega)
        have h3 := (hS.rd_at' spanE).S2 (k + 1) (by omega)
        rw [LL.spans_at p k (by omega)] at h2
        rw [LL.spans_at p (k + 1) (by omega)] at h3
        simp only [Nat.zero_add] at h2 h3
        obtain ⟨e0, e1⟩ := h2
        obtain ⟨e2, e3⟩ := h3
        have hgl := (hS.row.lt _ rfl).2
        dsimp only at hgl
        have b1 := LL.lo_0 p W k (by omega)
        have b2 := LL.lo_0 p W (k + 1) (by omega)
        have b3 := hP.2.2 (k + 1) (by omega)
        have b4 := LL.hi_1 p W (k + 1) (by omega)
        have hlt2 : k < (LL.spans p).length := by omega
        have hlt3 : k + 1 < (LL.spans p).length := by omega
        have Hlen := Lib.hid hlen
        clear hlen
        go_wp2_with fail
        refine rel_tail_b 23 [(22, fun v W => ∃ g2, v = .slice (some ⟨g2, 0, none⟩) 1 1 ∧ Blk W g2 (boxC (LL.boxAt p k)).toArray 62 ∧ wr.heap.size < g2)] (by kernel_rfl) (by kernel_rfl) ?_
        simp only [List.take_succ_cons, List.take_zero, List.drop_succ_cons, List.drop_zero]
        iterate 22 ((apply rel_plain (hR := rfl) (hF := fun _ => trivial) (hg := rfl)); (focus ((intro w' hL'); (obtain ⟨hcS, hfS, hlS⟩ := bcell hL'); (try simp only [World.size_setCell, World.size_alloc, World.size_drew] at hcS hfS hlS); (go_simp); (try go_bits); (try (first | (rw [if_pos (by omega)]; done) | (rw [if_neg (by omega)]; done) | (rw [if_pos (by omega)]; go_simp) | (rw [if_neg (by omega)]; go_simp))); (first | with_reducible rfl | exact rfl | skip))); (simp only [Act.put, List.setIfInBounds_toArray, List.set_cons_zero, List.set_cons_succ]))
        ((apply rel_told (hR := rfl) (hg := rfl)); (focus ((intro w' hL' hD'); (obtain ⟨hcS, hfS, hlS⟩ := bcell hL'); (try simp only [World.size_setCell, World.size_alloc, World.size_drew] at hcS hfS hlS); (go_simp); (try go_bits); (try (first | (rw [if_pos (by omega)]; done) | (rw [if_neg (by omega)]; done) | (rw [if_pos (by omega)]; go_simp) | (rw [if_neg (by omega)]; go_simp))); (refine ⟨b_alloc (Below.refl _ _) _, ?_⟩; ((repeat (first | (refine Tell.hit rfl ?_) | (refine Tell.skip rfl ?_))); exact ⟨_, rfl, Blk.new _ _ _, by have h7 : (wr.alloc _).heap.size ≤ _ := hL'.size; rw [World.size_alloc] at h7; omega⟩)))); (intro v' w0' hv'); (replace hv' := Tell.out hv' rfl); (obtain ⟨g2, rfl, -, hg2⟩ := hv'); (simp only [Act.put, List.setIfInBounds_toArray, List.set_cons_zero, List.set_cons_succ]))
        refine rel_nil ?_
        intro W9 hL9 hF9
        obtain ⟨w0, hl0, g', hg', kG, -⟩ := Known.out (hF9 22) rfl
        injection hg' with hg'
        injection hg' with hg'
        cases hg'
        replace kG := kG.b hl0
        clear hF9 hl0
        go_wp2_with (at_builtin; go_loud (refine wp_app (bytes := 48) (e := 62) rfl _ _ _ rfl boxE (.agg (boxC LL.b0).toArray) Try.underlying55 (by kernel_rfl) rfl (by decide) (v := u5) rfl ((hO.a _).b hL9) rfl (Rd.one (x := LL.boxAt p k) kG rfl (by decide)) (by rw [LL.tab_len]; omega) ?_); intro v7 w7 hO7 hg7 hat7)
        rw [LL.tab_snoc] at hO7
        have hz := hg7.size
        have hz9 := hL9.size
        simp only [World.size_alloc] at hz9
        go_roundw
        case rel => exact ⟨k + 1, by omega, by go_num, hO7, Own.grown ((hS.a _).b hL9) hg7 (by
          cases hv : u5.ownBlock with
          | none => exact .inr (by simp [Value.ownBlock])
          | some b => exact .inr (hge b hv).2), (fun b hb => own_two (n := _) (m := 0) hat7 hb (fun b => w.heap.size + 1 ≤ b ∧ Value.ownBlock (.slice (some ⟨g, 0, none⟩) (LL.spans p).length cs) ≠ some b) hge ⟨by omega, by simp [Value.ownBlock]; omega⟩), ((kP.a _).b hL9).grown hg7 (fun e9 => by have := (hge _ e9).1; omega), b_grown' (w := w) (b_step (b_alloc hb _) hL9) hg7 (by omega) (fun g' hg' => by have := (hge _ hg').1; omega)⟩
        case measure => simp [intOf]; omega
      · obtain rfl : k = p.steps.length := by omega
        go_wp2
        go_ret
        exact ⟨_, rfl, hO, fun b hb => by have := (hge b hb).1; omega, hb⟩
  · have hroom := h.room
    go_enter Try.func25, Try.ntmps25
    go_wp2_with (go_at_call 24; go_loud (refine (impl_FlySpans_c p A c _ (by exact Rd.mono (by with_reducible assumption) (by repeat' (first | with_reducible exact Below.refl _ _ | with_reducible assumption | with_reducible refine b_alloc ?_ _ | with_reducible refine b_drewN ?_ _ | with_reducible refine b_drew ?_ | with_reducible refine b_set ?_ (by first | (simp only [World.size_setCell, World.size_alloc, World.size_drew]; omega) | (simp; done) | (simp; omega)) _ | with_reducible refine b_step ?_ (by with_reducible assumption))))).mono ?_); intro e w2 hM; rw [LL.spansM_no hP] at hM; obtain ⟨As, cs, rfl, hS, hSg, hB⟩ := hM.go2 spanE)
    go_ret
    exact ⟨_, rfl, by rw [LL.tubeM_no hP]; exact ⟨World.ownsRow_nil _ _ _ _, by simp⟩, fun b hb => by simp [Value.ownBlock] at hb, (by repeat' (first | with_reducible exact Below.refl _ _ | with_reducible assumption | with_reducible refine b_alloc ?_ _ | with_reducible refine b_drewN ?_ _ | with_reducible refine b_drew ?_ | with_reducible refine b_set ?_ (by first | (simp only [World.size_setCell, World.size_alloc, World.size_drew]; omega) | (simp; done) | (simp; omega)) _ | with_reducible refine b_step ?_ (by with_reducible assumption)))⟩
set_option maxRecDepth 100000 in
set_option maxHeartbeats 4000000 in
theorem spec_FlyTube_c (p : LL.Path) (A : Option Addr) (c : Nat) (w : World) (h : RdS w A p.steps.length c p.steps) : Calls Try.prog 28 #[.agg #[.int .i64 p.q, .int .i64 p.s, .slice A p.steps.length c, .int .i64 p.fr, .int .i64 p.by_]] w (Mk boxC 6 48 62 w (LL.tubeM p)) := by
  by_cases hP : LL.Flies p
  · rw [LL.tubeM_yes hP]
    have hroom := h.room
    have hn1 : p.steps.length ≤ 40 := by have := hP.1.2.1.2; omega
    have W := hP.1.win
    go_enter Try.func28, Try.ntmps28
    go_wp2_with (go_at_call 33; go_loud (refine (spec_FlySpans_c p A c _ (by exact Rd.mono (by with_reducible assumption) (by repeat' (first | with_reducible exact Below.refl _ _ | with_reducible assumption | with_reducible refine b_alloc ?_ _ | with_reducible refine b_drewN ?_ _ | with_reducible refine b_drew ?_ | with_reducible refine b_set ?_ (by first | (simp only [World.size_setCell, World.size_alloc, World.size_drew]; omega) | (simp; done) | (simp; omega)) _ | with_reducible refine b_step ?_ (by with_reducible assumption))))).mono ?_); intro e w2 hM; rw [LL.spansM_yes hP] at hM; obtain ⟨As, cs, rfl, hS, hSg, hB⟩ := hM.go2 spanE; have hB9 := bcell hB; obtain ⟨hc9, hf9, hl9⟩ := hB9; have hz := hB.size; (try simp only [World.size_alloc] at hz hSg))
    have hb := b_step (w := w) (by repeat' (first | with_reducible exact Below.refl _ _ | with_reducible assumption | with_reducible refine b_alloc ?_ _ | with_reducible refine b_drewN ?_ _ | with_reducible refine b_drew ?_ | with_reducible refine b_set ?_ (by first | (simp only [World.size_setCell, World.size_alloc, World.size_drew]; omega) | (simp; done) | (simp; omega)) _ | with_reducible refine b_step ?_ (by with_reducible assumption))) hB
    have hB0 := hB
    have kP0 := Blk.new w #[.int .i64 p.q, .int .i64 p.s, .slice A p.steps.length c, .int .i64 p.fr, .int .i64 p.by_] 43
    clear hB hc9 hf9 hl9
    go_loopw [3, 6] (fun o i wr => ∃ k : Nat, k ≤ p.steps.length ∧ i = .int .i64 k ∧ Own boxC 6 48 62 wr o (LL.tab k (LL.boxAt p)) ∧ Own spanC 2 16 60 wr (.slice As (LL.spans p).length cs) (LL.spans p) ∧ (∀ b, o.ownBlock = some b → w.heap.size + 1 ≤ b ∧ Value.ownBlock (.slice As (LL.spans p).length cs) ≠ some b) ∧ Blk wr w.heap.size #[.int .i64 p.q, .int .i64 p.s, .slice A p.steps.length c, .int .i64 p.fr, .int .i64 p.by_] 43 ∧ Below w.heap.size w wr) (fun _ i _ => p.steps.length - (intOf i).toNat)
    case atStart => exact ⟨0, Nat.zero_le _, rfl, by rw [LL.tab_zero]; exact (Own.made' (by simp)).b hB0, hS, (fun b hb => by simp [Value.ownBlock] at hb; subst hb; exact ⟨by omega, fun e => by have := hSg _ e; omega⟩), (kP0.a _).b hB0, (by repeat' (first | with_reducible exact Below.refl _ _ | with_reducible assumption | with_reducible refine b_alloc ?_ _ | with_reducible refine b_drewN ?_ _ | with_reducible refine b_drew ?_ | with_reducible refine b_set ?_ (by first | (simp only [World.size_setCell, World.size_alloc, World.size_drew]; omega) | (simp; done) | (simp; omega)) _ | with_reducible refine b_step ?_ (by with_reducible assumption)))⟩
    case round =>
      clear hS hb hz hB0 kP0
      obtain ⟨k, hk, rfl, hO, hS, hge, kP, hb⟩ := hrel
      obtain ⟨eP, fP, lP⟩ := kP.cells
      by_cases hlt : k < p.steps.length
      · obtain ⟨b, off, rfl, hbw⟩ := h.addr (by omega)
        obtain ⟨c0, c1, c2, c3, c4, c5, c6⟩ := h.S7 k hlt
        obtain ⟨gc, gf, gl⟩ := bcell hb
        obtain ⟨g, rfl⟩ := hS.someA (by simp [LL.spans, LL.tab_len])
        have hlen : (LL.spans p).length = p.steps.length + 1 := LL.tab_len _ _
        have h2 := (hS.rd_at' spanE).S2 k (by omega)
        have h3 := (hS.rd_at' spanE).S2 (k + 1) (by omega)
        rw [LL.spans_at p k (by omega)] at h2
        rw [LL.spans_at p (k + 1) (by omega)] at h3
        simp only [Nat.zero_add] at h2 h3
        obtain ⟨e0, e1⟩ := h2
        obtain ⟨e2, e3⟩ := h3
        have hgl := (hS.row.lt _ rfl).2
        dsimp only at hgl
        have b1 := LL.lo_0 p W k (by omega)
        have b2 := LL.lo_0 p W (k + 1) (by omega)
        have b3 := hP.2.2 (k + 1) (by omega)
        have b4 := LL.hi_1 p W (k + 1) (by omega)
        have hlt2 : k < (LL.spans p).length := by omega
        have hlt3 : k + 1 < (LL.spans p).length := by omega
        have Hlen := Lib.hid hlen
        clear hlen
        go_wp2_with fail
        refine rel_tail_b 23 [(22, fun v W => ∃ g2, v = .slice (some ⟨g2, 0, none⟩) 1 1 ∧ Blk W g2 (boxC (LL.boxAt p k)).toArray 62 ∧ wr.heap.size < g2)] (by kernel_rfl) (by kernel_rfl) ?_
        simp only [List.take_succ_cons, List.take_zero, List.drop_succ_cons, List.drop_zero]
        iterate 22 ((apply rel_plain (hR := rfl) (hF := fun _ => trivial) (hg := rfl)); (focus ((intro w' hL'); (obtain ⟨hcS, hfS, hlS⟩ := bcell hL'); (try simp only [World.size_setCell, World.size_alloc, World.size_drew] at hcS hfS hlS); (go_simp); (try go_bits); (try (first | (rw [if_pos (by omega)]; done) | (rw [if_neg (by omega)]; done) | (rw [if_pos (by omega)]; go_simp) | (rw [if_neg (by omega)]; go_simp))); (first | with_reducible rfl | exact rfl | skip))); (simp only [Act.put, List.setIfInBounds_toArray, List.set_cons_zero, List.set_cons_succ]))
        ((apply rel_told (hR := rfl) (hg := rfl)); (focus ((intro w' hL' hD'); (obtain ⟨hcS, hfS, hlS⟩ := bcell hL'); (try simp only [World.size_setCell, World.size_alloc, World.size_drew] at hcS hfS hlS); (go_simp); (try go_bits); (try (first | (rw [if_pos (by omega)]; done) | (rw [if_neg (by omega)]; done) | (rw [if_pos (by omega)]; go_simp) | (rw [if_neg (by omega)]; go_simp))); (refine ⟨b_alloc (Below.refl _ _) _, ?_⟩; ((repeat (first | (refine Tell.hit rfl ?_) | (refine Tell.skip rfl ?_))); exact ⟨_, rfl, Blk.new _ _ _, by have h7 : (wr.alloc _).heap.size ≤ _ := hL'.size; rw [World.size_alloc] at h7; omega⟩)))); (intro v' w0' hv'); (replace hv' := Tell.out hv' rfl); (obtain ⟨g2, rfl, -, hg2⟩ := hv'); (simp only [Act.put, List.setIfInBounds_toArray, List.set_cons_zero, List.set_cons_succ]))
        refine rel_nil ?_
        intro W9 hL9 hF9
        obtain ⟨w0, hl0, g', hg', kG, -⟩ := Known.out (hF9 22) rfl
        injection hg' with hg'
        injection hg' with hg'
        cases hg'
        replace kG := kG.b hl0
        clear hF9 hl0
        go_wp2_with (at_builtin; go_loud (refine wp_app (bytes := 48) (e := 62) rfl _ _ _ rfl boxE (.agg (boxC LL.b0).toArray) Try.underlying55 (by kernel_rfl) rfl (by decide) (v := u3) rfl ((hO.a _).b hL9) rfl (Rd.one (x := LL.boxAt p k) kG rfl (by decide)) (by rw [LL.tab_len]; omega) ?_); intro v7 w7 hO7 hg7 hat7)
        rw [LL.tab_snoc] at hO7
        have hz := hg7.size
        have hz9 := hL9.size
        simp only [World.size_alloc] at hz9
        go_roundw
        case rel => exact ⟨k + 1, by omega, by go_num, hO7, Own.grown ((hS.a _).b hL9) hg7 (by
          cases hv : u3.ownBlock with
          | none => exact .inr (by simp [Value.ownBlock])
          | some b => exact .inr (hge b hv).2), (fun b hb => own_two (n := _) (m := 0) hat7 hb (fun b => w.heap.size + 1 ≤ b ∧ Value.ownBlock (.slice (some ⟨g, 0, none⟩) (LL.spans p).length cs) ≠ some b) hge ⟨by omega, by simp [Value.ownBlock]; omega⟩), ((kP.a _).b hL9).grown hg7 (fun e9 => by have := (hge _ e9).1; omega), b_grown' (w := w) (b_step (b_alloc hb _) hL9) hg7 (by omega) (fun g' hg' => by have := (hge _ hg').1; omega)⟩
        case measure => simp [intOf]; omega
      · obtain rfl : k = p.steps.length := by omega
        go_wp2
        go_ret
        exact ⟨_, rfl, hO, fun b hb => by have := (hge b hb).1; omega, hb⟩
  · have hroom := h.room
    go_enter Try.func28, Try.ntmps28
    go_wp2_with (go_at_call 33; go_loud (refine (spec_FlySpans_c p A c _ (by exact Rd.mono (by with_reducible assumption) (by repeat' (first | with_reducible exact Below.refl _ _ | with_reducible assumption | with_reducible refine b_alloc ?_ _ | with_reducible refine b_drewN ?_ _ | with_reducible refine b_drew ?_ | with_reducible refine b_set ?_ (by first | (simp only [World.size_setCell, World.size_alloc, World.size_drew]; omega) | (simp; done) | (simp; omega)) _ | with_reducible refine b_step ?_ (by with_reducible assumption))))).mono ?_); intro e w2 hM; rw [LL.spansM_no hP] at hM; obtain ⟨As, cs, rfl, hS, hSg, hB⟩ := hM.go2 spanE; have hz := hB.size; (try simp only [World.size_alloc] at hz hSg))
    have hO0 := (Own.made' (α := LL.Box) (enc := boxC) (sz := 6) (bytes := 48) (e := 62) (w := w.alloc (.cells #[.int .i64 p.q, .int .i64 p.s, .slice A p.steps.length c, .int .i64 p.fr, .int .i64 p.by_] 43)) (g := w.heap.size + 1) (by simp)).b hB
    have hb := b_step (w := w) (by repeat' (first | with_reducible exact Below.refl _ _ | with_reducible assumption | with_reducible refine b_alloc ?_ _ | with_reducible refine b_drewN ?_ _ | with_reducible refine b_drew ?_ | with_reducible refine b_set ?_ (by first | (simp only [World.size_setCell, World.size_alloc, World.size_drew]; omega) | (simp; done) | (simp; omega)) _ | with_reducible refine b_step ?_ (by with_reducible assumption))) hB
    clear hB
    go_loopw [3, 6] (fun o i wr => o = .slice (some ⟨w.heap.size + 1, 0, none⟩) 0 0 ∧ i = .int .i64 0 ∧ Own boxC 6 48 62 wr (.slice (some ⟨w.heap.size + 1, 0, none⟩) 0 0) [] ∧ Below w.heap.size w wr) (fun _ _ _ => 0)
    case atStart => exact ⟨rfl, rfl, hO0, hb⟩
    case round =>
      clear hO0 hb
      obtain ⟨rfl, rfl, hO, hb⟩ := hrel
      go_wp2
      go_ret
      exact ⟨_, rfl, by rw [LL.tubeM_no hP]; exact hO, fun b hb => by simp [Value.ownBlock] at hb; omega, hb⟩
end Go.Proofs.Ytpeojnknfonmlaa
