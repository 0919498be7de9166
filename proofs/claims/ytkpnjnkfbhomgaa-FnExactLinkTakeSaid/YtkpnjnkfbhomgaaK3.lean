/- The laws' helpers for words and aircraft. -/
import Derived.Test.YtkpnjnkfbhomgaaN2
import Derived.Test.YtkpnjnkfbhomgaaK2
import Derived.Test.YtkpnjnkfbhomgaaU1
import Derived.Test.YtkpnjnkfbhomgaaK1
set_option linter.unusedVariables false
set_option linter.unusedSimpArgs false
namespace Go.Proofs.Ytkpnjnkfbhomgaa
open Go.RowKit
attribute [local go_sem] w_lt_add w_le_of w_le_add max2_i min2_i
/-- two rows of different kinds lie in different blocks -/
theorem own_kinds {α β : Type} {enc : α → List Value} {enc' : β → List Value} {sz bytes e sz' bytes' e' : Nat} {w : World} {v v' : Value} {xs : List α} {ys : List β} (h : Own enc sz bytes e w v xs) (h' : Own enc' sz' bytes' e' w v' ys) (ht : e ≠ e') : ∀ k, v.ownBlock = some k → ¬ v'.ownBlock = some k := fun k hk hk' => by
  rcases h.row.2 with ⟨rfl, _⟩ | ⟨g, cap, cur, rfl, _, hh, _⟩
  · simp [Value.ownBlock] at hk
  · rcases h'.row.2 with ⟨rfl, _⟩ | ⟨g', cap', cur', rfl, _, hh', _⟩
    · simp [Value.ownBlock] at hk'
    · simp [Value.ownBlock] at hk hk'
      subst hk
      subst hk'
      rw [hh] at hh'
      injection hh' with hh'
      injection hh' with _ h1
      exact ht h1
/-! ### words -/
def wordV (x : LL.Word) (A : Option Addr) (c : Nat) : Value := .agg #[.int .i64 x.kind, .string x.name, .int .i64 x.number, .int .i64 x.path.q, .int .i64 x.path.s, .slice A x.path.steps.length c, .int .i64 x.path.fr, .int .i64 x.path.by_]
abbrev OwnP (w : World) (A : Option Addr) (c : Nat) (p : LL.Path) : Prop := Own stepC 7 56 146 w (.slice A p.steps.length c) p.steps
/-- a call has made a word -/
def MkWd (w : World) (x : LL.Word) (en : Ending) (w' : World) : Prop := ∃ A c, en = .returned (.agg #[.int .i64 x.kind, .string x.name, .int .i64 x.number, .int .i64 x.path.q, .int .i64 x.path.s, .slice A x.path.steps.length c, .int .i64 x.path.fr, .int .i64 x.path.by_]) ∧ OwnP w' A c x.path ∧ (∀ k, Value.ownBlock (.slice A x.path.steps.length c) = some k → w.heap.size ≤ k) ∧ Below w.heap.size w w'
set_option maxHeartbeats 2000000 in
theorem toLinkWord_c (x : LL.Word) (A : Option Addr) (c : Nat) (w : World) (h : RdS w A x.path.steps.length c x.path.steps) : Calls Try.prog 29 #[.agg #[.int .i64 x.kind, .string x.name, .int .i64 x.number, .int .i64 x.path.q, .int .i64 x.path.s, .slice A x.path.steps.length c, .int .i64 x.path.fr, .int .i64 x.path.by_]] w (MkWd w x) := by
  go_enter Try.func29, Try.ntmps29
  go_wp2_with fail
  refine calls_name (fun W => Below w.heap.size w W ∧ Blk W w.heap.size #[.int .i64 x.kind, .string x.name, .int .i64 x.number, .int .i64 x.path.q, .int .i64 x.path.s, .slice A x.path.steps.length c, .int .i64 x.path.fr, .int .i64 x.path.by_] 58 ∧ Blk W (w.heap.size + 1) #[.int .i64 0, .string ⟨#[]⟩, .int .i64 0, .int .i64 0, .int .i64 0, .slice none 0 0, .int .i64 0, .int .i64 0] 46 ∧ Blk W (w.heap.size + 1 + 1) #[.int .i64 x.kind, .string x.name, .int .i64 x.number, .int .i64 0, .int .i64 0, .slice none 0 0, .int .i64 0, .int .i64 0] 46) ⟨(by repeat' (first | with_reducible exact Below.refl _ _ | with_reducible assumption | with_reducible refine b_alloc ?_ _ | with_reducible refine b_drewN ?_ _ | with_reducible refine b_drew ?_ | with_reducible refine b_set ?_ (by first | (simp only [World.size_setCell, World.size_alloc, World.size_drew]; omega) | (simp; done) | (simp; omega)) _ | with_reducible refine b_step ?_ (by with_reducible assumption))), (by repeat' (first | with_reducible assumption | with_reducible exact Blk.new _ _ _ | with_reducible exact Blk.new' _ _ (by first | (simp only [World.size_alloc, World.size_setCell, World.size_drew]; done) | (simp only [World.size_alloc, World.size_setCell, World.size_drew]; omega) | omega) | with_reducible refine Blk.a ?_ _ | with_reducible refine Blk.d ?_ | with_reducible refine Blk.dN ?_ _ | with_reducible refine Blk.s ?_ (by simp only [ne_eq]; omega) _ | with_reducible refine Blk.b ?_ (by with_reducible assumption))), (by repeat' (first | with_reducible assumption | with_reducible exact Blk.new _ _ _ | with_reducible exact Blk.new' _ _ (by first | (simp only [World.size_alloc, World.size_setCell, World.size_drew]; done) | (simp only [World.size_alloc, World.size_setCell, World.size_drew]; omega) | omega) | with_reducible refine Blk.a ?_ _ | with_reducible refine Blk.d ?_ | with_reducible refine Blk.dN ?_ _ | with_reducible refine Blk.s ?_ (by simp only [ne_eq]; omega) _ | with_reducible refine Blk.b ?_ (by with_reducible assumption))), (by repeat' (first | with_reducible assumption | with_reducible exact Blk.new _ _ _ | with_reducible exact Blk.new' _ _ (by first | (simp only [World.size_alloc, World.size_setCell, World.size_drew]; done) | (simp only [World.size_alloc, World.size_setCell, World.size_drew]; omega) | omega) | with_reducible refine Blk.a ?_ _ | with_reducible refine Blk.d ?_ | with_reducible refine Blk.dN ?_ _ | with_reducible refine Blk.s ?_ (by simp only [ne_eq]; omega) _ | with_reducible refine Blk.b ?_ (by with_reducible assumption)))⟩ ?_
  rintro W1 ⟨hb, kA, kR, kX⟩
  have hX1 := kX.cells.2.2
  refine (toFlyPath_c x.path A c _ (h.mono hb)).mono ?_
  intro e W2 hM
  obtain ⟨A1, c1, rfl, hO, hOg, hB⟩ := hM.gop
  have hO2 : ∀ k, Value.ownBlock (.slice A1 x.path.steps.length c1) = some k → w.heap.size + 1 + 1 < k := fun k hk => by have := hOg k hk; omega
  replace hb := b_step hb hB; replace kA := kA.b hB; replace kR := kR.b hB; replace kX := kX.b hB; clear hB
  clear hM hOg
  obtain ⟨ekA, fkA, lkA⟩ := kA.cells; obtain ⟨ekR, fkR, lkR⟩ := kR.cells; obtain ⟨ekX, fkX, lkX⟩ := kX.cells
  go_wp21
  (refine bodyPost_ret (res_c rfl _ [.int .i64 x.kind, .string x.name, .int .i64 x.number, .int .i64 x.path.q, .int .i64 x.path.s, .slice A1 x.path.steps.length c1, .int .i64 x.path.fr, .int .i64 x.path.by_] rfl _ Try.underlying46 rfl (by kernel_rfl) (by simp only [CellsAt, and_true]; and_intros <;> go_simp)) rfl ?_)
  exact ⟨A1, c1, rfl, (by repeat' (first | with_reducible assumption | with_reducible refine Own.s ?_ _ (fun k hk => by have := hO2 k hk; (try simp only); omega) | with_reducible refine Own.a ?_ _ | with_reducible refine Own.d ?_ | with_reducible refine Own.dN ?_ _ | with_reducible refine Own.b ?_ (by with_reducible assumption))), fun k hk => by have := hO2 k hk; omega, (by repeat' (first | with_reducible exact Below.refl _ _ | with_reducible assumption | with_reducible refine b_alloc ?_ _ | with_reducible refine b_drewN ?_ _ | with_reducible refine b_drew ?_ | with_reducible refine b_set ?_ (by first | (simp only [World.size_setCell, World.size_alloc, World.size_drew]; omega) | (simp; done) | (simp; omega)) _ | with_reducible refine b_step ?_ (by with_reducible assumption)))⟩
theorem szLinkWord_c (x : LL.Word) (left : Int) (A : Option Addr) (c : Nat) (w : World) (h0 : 0 ≤ left) (h1 : left ≤ 1048576) (hs : x.name.size ≤ 9223372036854775807) (hn : x.path.steps.length ≤ 140737488355328) : Calls Try.prog 27 #[.agg #[.int .i64 x.kind, .string x.name, .int .i64 x.number, .int .i64 x.path.q, .int .i64 x.path.s, .slice A x.path.steps.length c, .int .i64 x.path.fr, .int .i64 x.path.by_], .int .i64 left] w fun e w' => e = .returned (.int .i64 (LL.szT left x.name.size x.path.steps.length)) ∧ Below w.heap.size w w' := by
  have hs' : (x.name.size : Int) ≤ 9223372036854775807 := by omega
  by_cases hl : left - x.name.size < 0
  · have hT : LL.szT left x.name.size x.path.steps.length = -1 := by unfold LL.szT; rw [if_pos hl]
    have HT := Lib.hid hT
    clear hT
    go_enter Try.func27, Try.ntmps27
    go_wp2_with fail
    go_ret
    exact ⟨ri HT.out.symm, (by repeat' (first | with_reducible exact Below.refl _ _ | with_reducible assumption | with_reducible refine b_alloc ?_ _ | with_reducible refine b_drewN ?_ _ | with_reducible refine b_drew ?_ | with_reducible refine b_set ?_ (by first | (simp only [World.size_setCell, World.size_alloc, World.size_drew]; omega) | (simp; done) | (simp; omega)) _ | with_reducible refine b_step ?_ (by with_reducible assumption)))⟩
  · have hT : LL.szT left x.name.size x.path.steps.length = LL.sz (left - x.name.size) x.path.steps.length := by unfold LL.szT; rw [if_neg hl]
    have HT := Lib.hid hT
    clear hT
    go_enter Try.func27, Try.ntmps27
    go_wp2_with (go_at_call 32; go_loud (refine (szFlyPath_c _ _ _ _ _ _ _ _ _ (by omega) (by omega) hn).mono ?_); rintro e w1 ⟨rfl, hb⟩; (repeat (with_reducible first | replace hb := b_un hb | replace hb := b_unN hb)); obtain ⟨hc, hf, hl⟩ := bcell hb; obtain ⟨gc, gf, gl⟩ := bcell (b_step (w := w) (by repeat' (first | with_reducible exact Below.refl _ _ | with_reducible assumption | with_reducible refine b_alloc ?_ _ | with_reducible refine b_drewN ?_ _ | with_reducible refine b_drew ?_ | with_reducible refine b_set ?_ (by first | (simp only [World.size_setCell, World.size_alloc, World.size_drew]; omega) | (simp; done) | (simp; omega)) _ | with_reducible refine b_step ?_ (by with_reducible assumption))) hb); have hz := hb.size; (try simp at hz); have yw1_0 : w.heap.size < w1.heap.size := (by omega))
    all_goals go_ret
    all_goals exact ⟨ri (by rw [HT.out]; first | done | (simp only [LL.sz] at *; (try omega))), (by repeat' (first | with_reducible exact Below.refl _ _ | with_reducible assumption | with_reducible refine b_alloc ?_ _ | with_reducible refine b_drewN ?_ _ | with_reducible refine b_drew ?_ | with_reducible refine b_set ?_ (by first | (simp only [World.size_setCell, World.size_alloc, World.size_drew]; omega) | (simp; done) | (simp; omega)) _ | with_reducible refine b_step ?_ (by with_reducible assumption)))⟩
set_option maxHeartbeats 2000000 in
theorem eqLinkWord_c (x : LL.Word) (A A' : Option Addr) (c c' : Nat) (w : World) (h : RdS w A x.path.steps.length c x.path.steps) (h' : RdS w A' x.path.steps.length c' x.path.steps) : Calls Try.prog 23 #[.agg #[.int .i64 x.kind, .string x.name, .int .i64 x.number, .int .i64 x.path.q, .int .i64 x.path.s, .slice A x.path.steps.length c, .int .i64 x.path.fr, .int .i64 x.path.by_], .agg #[.int .i64 x.kind, .string x.name, .int .i64 x.number, .int .i64 x.path.q, .int .i64 x.path.s, .slice A' x.path.steps.length c', .int .i64 x.path.fr, .int .i64 x.path.by_]] w fun e w' => e = .returned (.bool true) ∧ Below w.heap.size w w' := by
  go_enter Try.func23, Try.ntmps23
  go_wp2_with (go_at_call 36; go_loud (refine (eqFlyPath_c _ _ _ _ _ _ (by exact Rd.mono (by with_reducible assumption) (by repeat' (first | with_reducible exact Below.refl _ _ | with_reducible assumption | with_reducible refine b_alloc ?_ _ | with_reducible refine b_drewN ?_ _ | with_reducible refine b_drew ?_ | with_reducible refine b_set ?_ (by first | (simp only [World.size_setCell, World.size_alloc, World.size_drew]; omega) | (simp; done) | (simp; omega)) _ | with_reducible refine b_step ?_ (by with_reducible assumption)))) (by exact Rd.mono (by with_reducible assumption) (by repeat' (first | with_reducible exact Below.refl _ _ | with_reducible assumption | with_reducible refine b_alloc ?_ _ | with_reducible refine b_drewN ?_ _ | with_reducible refine b_drew ?_ | with_reducible refine b_set ?_ (by first | (simp only [World.size_setCell, World.size_alloc, World.size_drew]; omega) | (simp; done) | (simp; omega)) _ | with_reducible refine b_step ?_ (by with_reducible assumption))))).mono ?_); rintro e w1 ⟨rfl, hb⟩; (repeat (with_reducible first | replace hb := b_un hb | replace hb := b_unN hb)); obtain ⟨hc, hf, hl⟩ := bcell hb; obtain ⟨gc, gf, gl⟩ := bcell (b_step (w := w) (by repeat' (first | with_reducible exact Below.refl _ _ | with_reducible assumption | with_reducible refine b_alloc ?_ _ | with_reducible refine b_drewN ?_ _ | with_reducible refine b_drew ?_ | with_reducible refine b_set ?_ (by first | (simp only [World.size_setCell, World.size_alloc, World.size_drew]; omega) | (simp; done) | (simp; omega)) _ | with_reducible refine b_step ?_ (by with_reducible assumption))) hb); have hz := hb.size; (try simp at hz); have yw1_0 : w.heap.size < w1.heap.size := (by omega); have yw1_1 : w.heap.size + 1 < w1.heap.size := (by omega))
  go_ret
  exact ⟨rfl, (by repeat' (first | with_reducible exact Below.refl _ _ | with_reducible assumption | with_reducible refine b_alloc ?_ _ | with_reducible refine b_drewN ?_ _ | with_reducible refine b_drew ?_ | with_reducible refine b_set ?_ (by first | (simp only [World.size_setCell, World.size_alloc, World.size_drew]; omega) | (simp; done) | (simp; omega)) _ | with_reducible refine b_step ?_ (by with_reducible assumption)))⟩
/-! ### aircraft -/
abbrev OwnI (w : World) (F : Option Addr) (m : Nat) (f : List Int) : Prop := Own intC 1 8 3 w (.slice F f.length m) f
/-- the blocks of an aircraft -/
def FpC (x : LL.Craft) (A : Option Addr) (c : Nat) (F : Option Addr) (m : Nat) (k : Nat) : Prop := Value.ownBlock (.slice A x.path.steps.length c) = some k ∨ Value.ownBlock (.slice F x.flown.length m) = some k
/-- an aircraft whose rows are one's own -/
structure OwnCr (w : World) (x : LL.Craft) (A : Option Addr) (c : Nat) (F : Option Addr) (m : Nat) : Prop where
  p : OwnP w A c x.path
  f : OwnI w F m x.flown
theorem OwnCr.b {w w' : World} {x : LL.Craft} {A F : Option Addr} {c m : Nat} (h : OwnCr w x A c F m) (hb : Below w.heap.size w w') : OwnCr w' x A c F m := ⟨h.p.b hb, h.f.b hb⟩
theorem OwnCr.gS {w w' : World} {S : Nat → Prop} {x : LL.Craft} {A F : Option Addr} {c m : Nat} (h : OwnCr w x A c F m) (hg : GrownS w w' S) (hd : ∀ k, FpC x A c F m k → ¬ S k) : OwnCr w' x A c F m := ⟨h.p.gS hg fun k hk => hd k (.inl hk), h.f.gS hg fun k hk => hd k (.inr hk)⟩
theorem OwnCr.lt {w : World} {x : LL.Craft} {A F : Option Addr} {c m : Nat} (h : OwnCr w x A c F m) : ∀ k, FpC x A c F m k → k < w.heap.size := fun k hk => hk.elim (fun hk => (h.p.row.lt k hk).2) (fun hk => (h.f.row.lt k hk).2)
/-- a call has made an aircraft -/
def MkCr (w : World) (x : LL.Craft) (en : Ending) (w' : World) : Prop := ∃ A c F m, en = .returned (.agg #[.string x.name, .int .i64 x.number, .int .i64 x.no, .int .i64 x.path.q, .int .i64 x.path.s, .slice A x.path.steps.length c, .int .i64 x.path.fr, .int .i64 x.path.by_, .slice F x.flown.length m]) ∧ OwnCr w' x A c F m ∧ (∀ k, FpC x A c F m k → w.heap.size ≤ k) ∧ Below w.heap.size w w'
set_option maxHeartbeats 2000000 in
theorem toLinkCraft_c (x : LL.Craft) (A : Option Addr) (c : Nat) (F : Option Addr) (m : Nat) (w : World) (h : RdS w A x.path.steps.length c x.path.steps) (hF : RdI w F x.flown.length m x.flown) : Calls Try.prog 41 #[.agg #[.string x.name, .int .i64 x.number, .int .i64 x.no, .int .i64 x.path.q, .int .i64 x.path.s, .slice A x.path.steps.length c, .int .i64 x.path.fr, .int .i64 x.path.by_, .slice F x.flown.length m]] w (MkCr w x) := by
  go_enter Try.func41, Try.ntmps41
  go_wp2_with fail
  refine calls_name (fun W => Below w.heap.size w W ∧ Blk W w.heap.size #[.string x.name, .int .i64 x.number, .int .i64 x.no, .int .i64 x.path.q, .int .i64 x.path.s, .slice A x.path.steps.length c, .int .i64 x.path.fr, .int .i64 x.path.by_, .slice F x.flown.length m] 71 ∧ Blk W (w.heap.size + 1) #[.string ⟨#[]⟩, .int .i64 0, .int .i64 0, .int .i64 0, .int .i64 0, .slice none 0 0, .int .i64 0, .int .i64 0, .slice none 0 0] 74 ∧ Blk W (w.heap.size + 1 + 1) #[.string x.name, .int .i64 x.number, .int .i64 x.no, .int .i64 0, .int .i64 0, .slice none 0 0, .int .i64 0, .int .i64 0, .slice none 0 0] 74) ⟨(by repeat' (first | with_reducible exact Below.refl _ _ | with_reducible assumption | with_reducible refine b_alloc ?_ _ | with_reducible refine b_drewN ?_ _ | with_reducible refine b_drew ?_ | with_reducible refine b_set ?_ (by first | (simp only [World.size_setCell, World.size_alloc, World.size_drew]; omega) | (simp; done) | (simp; omega)) _ | with_reducible refine b_step ?_ (by with_reducible assumption))), (by repeat' (first | with_reducible assumption | with_reducible exact Blk.new _ _ _ | with_reducible exact Blk.new' _ _ (by first | (simp only [World.size_alloc, World.size_setCell, World.size_drew]; done) | (simp only [World.size_alloc, World.size_setCell, World.size_drew]; omega) | omega) | with_reducible refine Blk.a ?_ _ | with_reducible refine Blk.d ?_ | with_reducible refine Blk.dN ?_ _ | with_reducible refine Blk.s ?_ (by simp only [ne_eq]; omega) _ | with_reducible refine Blk.b ?_ (by with_reducible assumption))), (by repeat' (first | with_reducible assumption | with_reducible exact Blk.new _ _ _ | with_reducible exact Blk.new' _ _ (by first | (simp only [World.size_alloc, World.size_setCell, World.size_drew]; done) | (simp only [World.size_alloc, World.size_setCell, World.size_drew]; omega) | omega) | with_reducible refine Blk.a ?_ _ | with_reducible refine Blk.d ?_ | with_reducible refine Blk.dN ?_ _ | with_reducible refine Blk.s ?_ (by simp only [ne_eq]; omega) _ | with_reducible refine Blk.b ?_ (by with_reducible assumption))), (by repeat' (first | with_reducible assumption | with_reducible exact Blk.new _ _ _ | with_reducible exact Blk.new' _ _ (by first | (simp only [World.size_alloc, World.size_setCell, World.size_drew]; done) | (simp only [World.size_alloc, World.size_setCell, World.size_drew]; omega) | omega) | with_reducible refine Blk.a ?_ _ | with_reducible refine Blk.d ?_ | with_reducible refine Blk.dN ?_ _ | with_reducible refine Blk.s ?_ (by simp only [ne_eq]; omega) _ | with_reducible refine Blk.b ?_ (by with_reducible assumption)))⟩ ?_
  rintro W1 ⟨hb, kA, kR, kX⟩
  have hX1 := kX.cells.2.2
  refine (toFlyPath_c x.path A c _ (h.mono hb)).mono ?_
  intro e W2 hM
  obtain ⟨A1, c1, rfl, hO, hOg, hB⟩ := hM.gop
  have hO2 : ∀ k, Value.ownBlock (.slice A1 x.path.steps.length c1) = some k → w.heap.size + 1 + 1 < k := fun k hk => by have := hOg k hk; omega
  replace hb := b_step hb hB; replace kA := kA.b hB; replace kR := kR.b hB; replace kX := kX.b hB; clear hB
  clear hM hOg
  obtain ⟨ekA, fkA, lkA⟩ := kA.cells; obtain ⟨ekX, fkX, lkX⟩ := kX.cells
  go_wp2_with fail
  refine calls_name (fun W => Below w.heap.size w W ∧ Blk W (w.heap.size + 1) #[.string ⟨#[]⟩, .int .i64 0, .int .i64 0, .int .i64 0, .int .i64 0, .slice none 0 0, .int .i64 0, .int .i64 0, .slice none 0 0] 74 ∧ Blk W (w.heap.size + 1 + 1) #[.string x.name, .int .i64 x.number, .int .i64 x.no, .int .i64 x.path.q, .int .i64 x.path.s, .slice A1 x.path.steps.length c1, .int .i64 x.path.fr, .int .i64 x.path.by_, .slice none 0 0] 74 ∧ OwnP W A1 c1 x.path) ⟨(by repeat' (first | with_reducible exact Below.refl _ _ | with_reducible assumption | with_reducible refine b_alloc ?_ _ | with_reducible refine b_drewN ?_ _ | with_reducible refine b_drew ?_ | with_reducible refine b_set ?_ (by first | (simp only [World.size_setCell, World.size_alloc, World.size_drew]; omega) | (simp; done) | (simp; omega)) _ | with_reducible refine b_step ?_ (by with_reducible assumption))), (by repeat' (first | with_reducible assumption | with_reducible exact Blk.new _ _ _ | with_reducible exact Blk.new' _ _ (by first | (simp only [World.size_alloc, World.size_setCell, World.size_drew]; done) | (simp only [World.size_alloc, World.size_setCell, World.size_drew]; omega) | omega) | with_reducible refine Blk.a ?_ _ | with_reducible refine Blk.d ?_ | with_reducible refine Blk.dN ?_ _ | with_reducible refine Blk.s ?_ (by simp only [ne_eq]; omega) _ | with_reducible refine Blk.b ?_ (by with_reducible assumption))), by simpa using ((((kX.put 3 (.int .i64 x.path.q)).put 4 (.int .i64 x.path.s)).put 5 (.slice A1 x.path.steps.length c1)).put 6 (.int .i64 x.path.fr)).put 7 (.int .i64 x.path.by_), (by repeat' (first | with_reducible assumption | with_reducible refine Own.s ?_ _ (fun k hk => by have := hO2 k hk; (try simp only); omega) | with_reducible refine Own.a ?_ _ | with_reducible refine Own.d ?_ | with_reducible refine Own.dN ?_ _ | with_reducible refine Own.b ?_ (by with_reducible assumption)))⟩ ?_
  clear ekA fkA lkA ekX fkX lkX
  clear hb kA kR kX hO
  rintro W3 ⟨hb, kR, kX, hO⟩
  have hX3 := kX.cells.2.2
  refine (toIntS_c x.flown F m _ (hF.mono hb)).mono ?_
  intro e W4 hM
  obtain ⟨F1, m1, rfl, hQ, hQg, hB⟩ := hM.go intE
  have hQ2 : ∀ k, Value.ownBlock (.slice F1 x.flown.length m1) = some k → w.heap.size + 1 + 1 < k := fun k hk => by have := hQg k hk; omega
  replace hb := b_step hb hB; replace kR := kR.b hB; replace kX := kX.b hB; replace hO := hO.b hB; clear hB
  clear hM hQg
  obtain ⟨ekR, fkR, lkR⟩ := kR.cells; obtain ⟨ekX, fkX, lkX⟩ := kX.cells
  go_wp2_with fail
  (refine bodyPost_ret (res_c rfl _ [.string x.name, .int .i64 x.number, .int .i64 x.no, .int .i64 x.path.q, .int .i64 x.path.s, .slice A1 x.path.steps.length c1, .int .i64 x.path.fr, .int .i64 x.path.by_, .slice F1 x.flown.length m1] rfl _ Try.underlying74 rfl (by kernel_rfl) (by simp only [CellsAt, and_true]; and_intros <;> go_simp)) rfl ?_)
  exact ⟨A1, c1, F1, m1, rfl, ⟨(by repeat' (first | with_reducible assumption | with_reducible refine Own.s ?_ _ (fun k hk => by have := hO2 k hk; (try simp only); omega) | with_reducible refine Own.a ?_ _ | with_reducible refine Own.d ?_ | with_reducible refine Own.dN ?_ _ | with_reducible refine Own.b ?_ (by with_reducible assumption))), (by repeat' (first | with_reducible assumption | with_reducible refine Own.s ?_ _ (fun k hk => by have := hQ2 k hk; (try simp only); omega) | with_reducible refine Own.a ?_ _ | with_reducible refine Own.d ?_ | with_reducible refine Own.dN ?_ _ | with_reducible refine Own.b ?_ (by with_reducible assumption)))⟩, fun k hk => hk.elim (fun hk => by have := hO2 k hk; omega) (fun hk => by have := hQ2 k hk; omega), (by repeat' (first | with_reducible exact Below.refl _ _ | with_reducible assumption | with_reducible refine b_alloc ?_ _ | with_reducible refine b_drewN ?_ _ | with_reducible refine b_drew ?_ | with_reducible refine b_set ?_ (by first | (simp only [World.size_setCell, World.size_alloc, World.size_drew]; omega) | (simp; done) | (simp; omega)) _ | with_reducible refine b_step ?_ (by with_reducible assumption)))⟩
set_option maxHeartbeats 2000000 in
theorem eqLinkCraft_c (x : LL.Craft) (A A' : Option Addr) (c c' : Nat) (F F' : Option Addr) (m m' : Nat) (w : World) (h : OwnCr w x A c F m) (h' : OwnCr w x A' c' F' m') : Calls Try.prog 43 #[.agg #[.string x.name, .int .i64 x.number, .int .i64 x.no, .int .i64 x.path.q, .int .i64 x.path.s, .slice A x.path.steps.length c, .int .i64 x.path.fr, .int .i64 x.path.by_, .slice F x.flown.length m], .agg #[.string x.name, .int .i64 x.number, .int .i64 x.no, .int .i64 x.path.q, .int .i64 x.path.s, .slice A' x.path.steps.length c', .int .i64 x.path.fr, .int .i64 x.path.by_, .slice F' x.flown.length m']] w fun e w' => e = .returned (.bool true) ∧ Below w.heap.size w w' := by
  have r1 := h.p.rd_at' stepE
  have r2 := h'.p.rd_at' stepE
  have r3 := h.f.rd_at' intE
  have r4 := h'.f.rd_at' intE
  clear h h'
  go_enter Try.func43, Try.ntmps43
  go_wp2_with (first | (go_at_call 36; go_loud (refine (eqFlyPath_c _ _ _ _ _ _ (by exact Rd.mono (by with_reducible assumption) (by repeat' (first | with_reducible exact Below.refl _ _ | with_reducible assumption | with_reducible refine b_alloc ?_ _ | with_reducible refine b_drewN ?_ _ | with_reducible refine b_drew ?_ | with_reducible refine b_set ?_ (by first | (simp only [World.size_setCell, World.size_alloc, World.size_drew]; omega) | (simp; done) | (simp; omega)) _ | with_reducible refine b_step ?_ (by with_reducible assumption)))) (by exact Rd.mono (by with_reducible assumption) (by repeat' (first | with_reducible exact Below.refl _ _ | with_reducible assumption | with_reducible refine b_alloc ?_ _ | with_reducible refine b_drewN ?_ _ | with_reducible refine b_drew ?_ | with_reducible refine b_set ?_ (by first | (simp only [World.size_setCell, World.size_alloc, World.size_drew]; omega) | (simp; done) | (simp; omega)) _ | with_reducible refine b_step ?_ (by with_reducible assumption))))).mono ?_); rintro e w1 ⟨rfl, hb⟩; (repeat (with_reducible first | replace hb := b_un hb | replace hb := b_unN hb)); obtain ⟨hc, hf, hl⟩ := bcell hb; obtain ⟨gc, gf, gl⟩ := bcell (b_step (w := w) (by repeat' (first | with_reducible exact Below.refl _ _ | with_reducible assumption | with_reducible refine b_alloc ?_ _ | with_reducible refine b_drewN ?_ _ | with_reducible refine b_drew ?_ | with_reducible refine b_set ?_ (by first | (simp only [World.size_setCell, World.size_alloc, World.size_drew]; omega) | (simp; done) | (simp; omega)) _ | with_reducible refine b_step ?_ (by with_reducible assumption))) hb); have hz := hb.size; (try simp at hz); have yw1_0 : w.heap.size < w1.heap.size := (by omega); have yw1_1 : w.heap.size + 1 < w1.heap.size := (by omega)) | (go_at_call 98; go_loud (refine (eqIntS_c _ _ _ _ _ _ (by exact Rd.mono (by with_reducible assumption) (by repeat' (first | with_reducible exact Below.refl _ _ | with_reducible assumption | with_reducible refine b_alloc ?_ _ | with_reducible refine b_drewN ?_ _ | with_reducible refine b_drew ?_ | with_reducible refine b_set ?_ (by first | (simp only [World.size_setCell, World.size_alloc, World.size_drew]; omega) | (simp; done) | (simp; omega)) _ | with_reducible refine b_step ?_ (by with_reducible assumption)))) (by exact Rd.mono (by with_reducible assumption) (by repeat' (first | with_reducible exact Below.refl _ _ | with_reducible assumption | with_reducible refine b_alloc ?_ _ | with_reducible refine b_drewN ?_ _ | with_reducible refine b_drew ?_ | with_reducible refine b_set ?_ (by first | (simp only [World.size_setCell, World.size_alloc, World.size_drew]; omega) | (simp; done) | (simp; omega)) _ | with_reducible refine b_step ?_ (by with_reducible assumption))))).mono ?_); rintro e w1 ⟨rfl, hb⟩; (repeat (with_reducible first | replace hb := b_un hb | replace hb := b_unN hb)); obtain ⟨hc, hf, hl⟩ := bcell hb; obtain ⟨gc, gf, gl⟩ := bcell (b_step (w := w) (by repeat' (first | with_reducible exact Below.refl _ _ | with_reducible assumption | with_reducible refine b_alloc ?_ _ | with_reducible refine b_drewN ?_ _ | with_reducible refine b_drew ?_ | with_reducible refine b_set ?_ (by first | (simp only [World.size_setCell, World.size_alloc, World.size_drew]; omega) | (simp; done) | (simp; omega)) _ | with_reducible refine b_step ?_ (by with_reducible assumption))) hb); have hz := hb.size; (try simp at hz); have yw1_0 : w.heap.size < w1.heap.size := (by omega); have yw1_1 : w.heap.size + 1 < w1.heap.size := (by omega)))
  go_ret
  exact ⟨rfl, (by repeat' (first | with_reducible exact Below.refl _ _ | with_reducible assumption | with_reducible refine b_alloc ?_ _ | with_reducible refine b_drewN ?_ _ | with_reducible refine b_drew ?_ | with_reducible refine b_set ?_ (by first | (simp only [World.size_setCell, World.size_alloc, World.size_drew]; omega) | (simp; done) | (simp; omega)) _ | with_reducible refine b_step ?_ (by with_reducible assumption)))⟩
def LL.szC (left : Int) (s n m : Nat) : Int := if LL.szT left s n < 0 then -1 else LL.sz (LL.szT left s n) m
theorem szLinkCraft_c (x : LL.Craft) (left : Int) (A : Option Addr) (c : Nat) (F : Option Addr) (m : Nat) (w : World) (h0 : 0 ≤ left) (h1 : left ≤ 1048576) (hs : x.name.size ≤ 9223372036854775807) (hn : x.path.steps.length ≤ 140737488355328) (hm : x.flown.length ≤ 140737488355328) : Calls Try.prog 39 #[.agg #[.string x.name, .int .i64 x.number, .int .i64 x.no, .int .i64 x.path.q, .int .i64 x.path.s, .slice A x.path.steps.length c, .int .i64 x.path.fr, .int .i64 x.path.by_, .slice F x.flown.length m], .int .i64 left] w fun e w' => e = .returned (.int .i64 (LL.szC left x.name.size x.path.steps.length x.flown.length)) ∧ Below w.heap.size w w' := by
  have hs' : (x.name.size : Int) ≤ 9223372036854775807 := by omega
  by_cases hl : left - x.name.size < 0
  · have hC : LL.szC left x.name.size x.path.steps.length x.flown.length = -1 := by unfold LL.szC LL.szT; rw [if_pos hl]; rfl
    have HC := Lib.hid hC
    clear hC
    go_enter Try.func39, Try.ntmps39
    go_wp2_with fail
    go_ret
    exact ⟨ri HC.out.symm, (by repeat' (first | with_reducible exact Below.refl _ _ | with_reducible assumption | with_reducible refine b_alloc ?_ _ | with_reducible refine b_drewN ?_ _ | with_reducible refine b_drew ?_ | with_reducible refine b_set ?_ (by first | (simp only [World.size_setCell, World.size_alloc, World.size_drew]; omega) | (simp; done) | (simp; omega)) _ | with_reducible refine b_step ?_ (by with_reducible assumption)))⟩
  · have hT : LL.szT left x.name.size x.path.steps.length = LL.sz (left - x.name.size) x.path.steps.length := by unfold LL.szT; rw [if_neg hl]
    have hle := LL.sz_le (left := left - x.name.size) (by omega) x.path.steps.length
    by_cases h2 : LL.sz (left - x.name.size) x.path.steps.length < 0
    · have hC : LL.szC left x.name.size x.path.steps.length x.flown.length = -1 := by unfold LL.szC; rw [hT, if_pos h2]
      have HC := Lib.hid hC
      clear hC hT
      go_enter Try.func39, Try.ntmps39
      go_wp2_with (go_at_call 32; go_loud (refine (szFlyPath_c _ _ _ _ _ _ _ _ _ (by omega) (by omega) hn).mono ?_); rintro e w1 ⟨rfl, hb⟩; (repeat (with_reducible first | replace hb := b_un hb | replace hb := b_unN hb)); obtain ⟨hc, hf, hl⟩ := bcell hb; obtain ⟨gc, gf, gl⟩ := bcell (b_step (w := w) (by repeat' (first | with_reducible exact Below.refl _ _ | with_reducible assumption | with_reducible refine b_alloc ?_ _ | with_reducible refine b_drewN ?_ _ | with_reducible refine b_drew ?_ | with_reducible refine b_set ?_ (by first | (simp only [World.size_setCell, World.size_alloc, World.size_drew]; omega) | (simp; done) | (simp; omega)) _ | with_reducible refine b_step ?_ (by with_reducible assumption))) hb); have hz := hb.size; (try simp at hz); have yw1_0 : w.heap.size < w1.heap.size := (by omega))
      go_ret
      exact ⟨ri HC.out.symm, (by repeat' (first | with_reducible exact Below.refl _ _ | with_reducible assumption | with_reducible refine b_alloc ?_ _ | with_reducible refine b_drewN ?_ _ | with_reducible refine b_drew ?_ | with_reducible refine b_set ?_ (by first | (simp only [World.size_setCell, World.size_alloc, World.size_drew]; omega) | (simp; done) | (simp; omega)) _ | with_reducible refine b_step ?_ (by with_reducible assumption)))⟩
    · have hC : LL.szC left x.name.size x.path.steps.length x.flown.length = LL.sz (LL.sz (left - x.name.size) x.path.steps.length) x.flown.length := by unfold LL.szC; rw [hT, if_neg h2]
      have HC := Lib.hid hC
      clear hC hT
      go_enter Try.func39, Try.ntmps39
      go_wp2_with fail
      refine calls_name (fun W => Below w.heap.size w W ∧ Blk W w.heap.size #[.string x.name, .int .i64 x.number, .int .i64 x.no, .int .i64 x.path.q, .int .i64 x.path.s, .slice A x.path.steps.length c, .int .i64 x.path.fr, .int .i64 x.path.by_, .slice F x.flown.length m] 71) ⟨(by repeat' (first | with_reducible exact Below.refl _ _ | with_reducible assumption | with_reducible refine b_alloc ?_ _ | with_reducible refine b_drewN ?_ _ | with_reducible refine b_drew ?_ | with_reducible refine b_set ?_ (by first | (simp only [World.size_setCell, World.size_alloc, World.size_drew]; omega) | (simp; done) | (simp; omega)) _ | with_reducible refine b_step ?_ (by with_reducible assumption))), (by repeat' (first | with_reducible assumption | with_reducible exact Blk.new _ _ _ | with_reducible exact Blk.new' _ _ (by first | (simp only [World.size_alloc, World.size_setCell, World.size_drew]; done) | (simp only [World.size_alloc, World.size_setCell, World.size_drew]; omega) | omega) | with_reducible refine Blk.a ?_ _ | with_reducible refine Blk.d ?_ | with_reducible refine Blk.dN ?_ _ | with_reducible refine Blk.s ?_ (by simp only [ne_eq]; omega) _ | with_reducible refine Blk.b ?_ (by with_reducible assumption)))⟩ ?_
      rintro W1 ⟨hb, kC⟩
      refine (szFlyPath_c _ _ _ _ _ _ _ _ _ (by omega) (by omega) hn).mono ?_
      rintro e W2 ⟨rfl, hB⟩
      replace hb := b_step hb hB; replace kC := kC.b hB; clear hB
      generalize LL.sz (left - x.name.size) x.path.steps.length = z at *
      have h3 : 0 ≤ z := by omega
      obtain ⟨ekC, fkC, lkC⟩ := kC.cells
      go_wp2_with (go_at_call 87; refine (szIntS_c _ _ _ _ _ (by omega) (by omega) hm).mono ?_; rintro e w' ⟨rfl, rfl⟩)
      all_goals go_ret
      all_goals exact ⟨ri (by rw [HC.out]; first | done | (simp only [LL.sz] at *; (try omega))), (by repeat' (first | with_reducible exact Below.refl _ _ | with_reducible assumption | with_reducible refine b_alloc ?_ _ | with_reducible refine b_drewN ?_ _ | with_reducible refine b_drew ?_ | with_reducible refine b_set ?_ (by first | (simp only [World.size_setCell, World.size_alloc, World.size_drew]; omega) | (simp; done) | (simp; omega)) _ | with_reducible refine b_step ?_ (by with_reducible assumption)))⟩
theorem markLinkCraft_c (x : LL.Craft) (A : Option Addr) (c : Nat) (F : Option Addr) (m : Nat) (k : Int) (h0 : 0 ≤ k) (h1 : k + 7 * (x.path.steps.length : Int) ≤ 1125899906842624) (w : World) (hO : OwnCr w x A c F m) : Calls Try.prog 44 #[.agg #[.string x.name, .int .i64 x.number, .int .i64 x.no, .int .i64 x.path.q, .int .i64 x.path.s, .slice A x.path.steps.length c, .int .i64 x.path.fr, .int .i64 x.path.by_, .slice F x.flown.length m], .int .i64 k] w fun e w' => e = .returned (.int .i64 (k + 7 * (x.path.steps.length : Int) + (x.flown.length : Int))) ∧ (Own stepC 7 56 146 w' (.slice A x.path.steps.length c) (LL.tab x.path.steps.length (LL.mkFlyStepS k)) ∧ Own intC 1 8 3 w' (.slice F x.flown.length m) (LL.tab x.flown.length (LL.mkIntS (k + 7 * (x.path.steps.length : Int))))) ∧ GrownS w w' (FpC x A c F m) := by
  have hPl := fun k hk => (hO.p.row.lt k hk).2
  have hFl := fun k hk => (hO.f.row.lt k hk).2
  obtain ⟨hP, hI⟩ := hO
  go_enter Try.func44, Try.ntmps44
  go_wp2_with fail
  refine calls_name (fun W => Below w.heap.size w W ∧ Blk W w.heap.size #[.string x.name, .int .i64 x.number, .int .i64 x.no, .int .i64 x.path.q, .int .i64 x.path.s, .slice A x.path.steps.length c, .int .i64 x.path.fr, .int .i64 x.path.by_, .slice F x.flown.length m] 74) ⟨(by repeat' (first | with_reducible exact Below.refl _ _ | with_reducible assumption | with_reducible refine b_alloc ?_ _ | with_reducible refine b_drewN ?_ _ | with_reducible refine b_drew ?_ | with_reducible refine b_set ?_ (by first | (simp only [World.size_setCell, World.size_alloc, World.size_drew]; omega) | (simp; done) | (simp; omega)) _ | with_reducible refine b_step ?_ (by with_reducible assumption))), (by repeat' (first | with_reducible assumption | with_reducible exact Blk.new _ _ _ | with_reducible exact Blk.new' _ _ (by first | (simp only [World.size_alloc, World.size_setCell, World.size_drew]; done) | (simp only [World.size_alloc, World.size_setCell, World.size_drew]; omega) | omega) | with_reducible refine Blk.a ?_ _ | with_reducible refine Blk.d ?_ | with_reducible refine Blk.dN ?_ _ | with_reducible refine Blk.s ?_ (by simp only [ne_eq]; omega) _ | with_reducible refine Blk.b ?_ (by with_reducible assumption)))⟩ ?_
  rintro W1 ⟨hb, kC⟩
  replace hP := hP.b hb
  replace hI := hI.b hb
  refine (markFlyPath_c x.path A c k h0 (by omega) _ hP).mono ?_
  rintro e W2 ⟨rfl, hP2, hg⟩
  replace hg := GrownS.of hg
  replace hI := hI.gS hg (fun j h9 h8 => own_kinds hI hP (by decide) j h9 h8)
  replace kC := kC.gS hg (fun h8 => by have := hPl _ h8; omega)
  have hg0 := (GrownS.below (S := FpC x A c F m) hb).trans (hg.mono (fun j hj => .inl hj))
  clear hb hP hg
  obtain ⟨ekC, fkC, lkC⟩ := kC.cells
  go_wp2_with fail
  refine calls_name (fun W => Below W2.heap.size W2 W) (by repeat' (first | with_reducible exact Below.refl _ _ | with_reducible assumption | with_reducible refine b_alloc ?_ _ | with_reducible refine b_drewN ?_ _ | with_reducible refine b_drew ?_ | with_reducible refine b_set ?_ (by first | (simp only [World.size_setCell, World.size_alloc, World.size_drew]; omega) | (simp; done) | (simp; omega)) _ | with_reducible refine b_step ?_ (by with_reducible assumption))) ?_
  intro W3 hE
  clear ekC fkC lkC
  replace hP2 := hP2.b hE
  replace hI := hI.b hE
  replace hg0 := hg0.trans (GrownS.below hE)
  clear hE kC
  refine (markIntS_c x.flown F m _ (by omega) h1 _ hI).mono ?_
  rintro e W4 ⟨rfl, hI2, hg⟩
  replace hg := GrownS.of hg
  replace hP2 := hP2.gS hg (fun j h9 h8 => own_kinds hP2 hI (by decide) j h9 h8)
  replace hg0 := hg0.trans (hg.mono (fun j hj => .inr hj))
  clear hg hI
  go_wp2_with fail
  go_ret
  exact ⟨rfl, ⟨hP2, hI2⟩, hg0⟩
theorem heldLinkCraft_c (x : LL.Craft) (A : Option Addr) (c : Nat) (F : Option Addr) (m : Nat) (k : Int) (h0 : 0 ≤ k) (h1 : k + 7 * (x.path.steps.length : Int) ≤ 1125899906842624) (w : World) (hP : RdS w A x.path.steps.length c (LL.tab x.path.steps.length (LL.mkFlyStepS k))) (hI : RdI w F x.flown.length m (LL.tab x.flown.length (LL.mkIntS (k + 7 * (x.path.steps.length : Int))))) : Calls Try.prog 45 #[.agg #[.string x.name, .int .i64 x.number, .int .i64 x.no, .int .i64 x.path.q, .int .i64 x.path.s, .slice A x.path.steps.length c, .int .i64 x.path.fr, .int .i64 x.path.by_, .slice F x.flown.length m], .int .i64 k] w fun e w' => e = .returned (.int .i64 (k + 7 * (x.path.steps.length : Int) + (x.flown.length : Int))) ∧ Below w.heap.size w w' := by
  go_enter Try.func45, Try.ntmps45
  go_wp2_with fail
  refine calls_name (fun W => Below w.heap.size w W ∧ Blk W w.heap.size #[.string x.name, .int .i64 x.number, .int .i64 x.no, .int .i64 x.path.q, .int .i64 x.path.s, .slice A x.path.steps.length c, .int .i64 x.path.fr, .int .i64 x.path.by_, .slice F x.flown.length m] 74) ⟨(by repeat' (first | with_reducible exact Below.refl _ _ | with_reducible assumption | with_reducible refine b_alloc ?_ _ | with_reducible refine b_drewN ?_ _ | with_reducible refine b_drew ?_ | with_reducible refine b_set ?_ (by first | (simp only [World.size_setCell, World.size_alloc, World.size_drew]; omega) | (simp; done) | (simp; omega)) _ | with_reducible refine b_step ?_ (by with_reducible assumption))), (by repeat' (first | with_reducible assumption | with_reducible exact Blk.new _ _ _ | with_reducible exact Blk.new' _ _ (by first | (simp only [World.size_alloc, World.size_setCell, World.size_drew]; done) | (simp only [World.size_alloc, World.size_setCell, World.size_drew]; omega) | omega) | with_reducible refine Blk.a ?_ _ | with_reducible refine Blk.d ?_ | with_reducible refine Blk.dN ?_ _ | with_reducible refine Blk.s ?_ (by simp only [ne_eq]; omega) _ | with_reducible refine Blk.b ?_ (by with_reducible assumption)))⟩ ?_
  rintro W1 ⟨hb, kC⟩
  refine (heldFlyPath_c x.path A c k h0 (by omega) _ (hP.mono hb)).mono ?_
  rintro e W2 ⟨rfl, hB⟩
  replace hb := b_step hb hB; replace kC := kC.b hB; clear hB
  obtain ⟨ekC, fkC, lkC⟩ := kC.cells
  go_wp2_with fail
  refine calls_name (fun W => Below W2.heap.size W2 W) (by repeat' (first | with_reducible exact Below.refl _ _ | with_reducible assumption | with_reducible refine b_alloc ?_ _ | with_reducible refine b_drewN ?_ _ | with_reducible refine b_drew ?_ | with_reducible refine b_set ?_ (by first | (simp only [World.size_setCell, World.size_alloc, World.size_drew]; omega) | (simp; done) | (simp; omega)) _ | with_reducible refine b_step ?_ (by with_reducible assumption))) ?_; intro W3 hE; clear ekC fkC lkC; replace hb := b_step hb hE; replace kC := kC.b hE; clear hE
  refine (heldIntS_c x.flown.length F m _ (by omega) h1 _ (hI.mono hb)).mono ?_
  rintro e W4 ⟨rfl, rfl⟩
  go_wp2_with fail
  go_ret
  exact ⟨rfl, hb⟩
theorem markLinkWord_c (x : LL.Word) (A : Option Addr) (c : Nat) (k : Int) (h0 : 0 ≤ k) (h1 : k ≤ 1125899906842624) (w : World) (hO : OwnP w A c x.path) : Calls Try.prog 25 #[.agg #[.int .i64 x.kind, .string x.name, .int .i64 x.number, .int .i64 x.path.q, .int .i64 x.path.s, .slice A x.path.steps.length c, .int .i64 x.path.fr, .int .i64 x.path.by_], .int .i64 k] w (MkM stepC 7 56 146 w (.slice A x.path.steps.length c) (k + 7 * (x.path.steps.length : Int)) (LL.tab x.path.steps.length (LL.mkFlyStepS k))) := by
  go_enter Try.func25, Try.ntmps25
  go_wp2_with (go_at_call 48; go_loud (refine (markFlyPath_c x.path A c k h0 h1 _ (hO.a _)).mono ?_); rintro e w2 ⟨rfl, hO2, hg⟩)
  go_ret
  exact ⟨rfl, hO2, (World.grownBy_alloc w _ _).trans hg⟩
theorem heldLinkWord_c (x : LL.Word) (A : Option Addr) (c : Nat) (k : Int) (h0 : 0 ≤ k) (h1 : k ≤ 1125899906842624) (w : World) (hR : RdS w A x.path.steps.length c (LL.tab x.path.steps.length (LL.mkFlyStepS k))) : Calls Try.prog 26 #[.agg #[.int .i64 x.kind, .string x.name, .int .i64 x.number, .int .i64 x.path.q, .int .i64 x.path.s, .slice A x.path.steps.length c, .int .i64 x.path.fr, .int .i64 x.path.by_], .int .i64 k] w fun e w' => e = .returned (.int .i64 (k + 7 * (x.path.steps.length : Int))) ∧ Below w.heap.size w w' := by
  go_enter Try.func26, Try.ntmps26
  go_wp2_with (go_at_call 72; go_loud (refine (heldFlyPath_c x.path A c k h0 h1 _ (by exact Rd.mono (by with_reducible assumption) (by repeat' (first | with_reducible exact Below.refl _ _ | with_reducible assumption | with_reducible refine b_alloc ?_ _ | with_reducible refine b_drewN ?_ _ | with_reducible refine b_drew ?_ | with_reducible refine b_set ?_ (by first | (simp only [World.size_setCell, World.size_alloc, World.size_drew]; omega) | (simp; done) | (simp; omega)) _ | with_reducible refine b_step ?_ (by with_reducible assumption))))).mono ?_); rintro e w1 ⟨rfl, hb⟩; (repeat (with_reducible first | replace hb := b_un hb | replace hb := b_unN hb)); obtain ⟨hc, hf, hl⟩ := bcell hb; obtain ⟨gc, gf, gl⟩ := bcell (b_step (w := w) (by repeat' (first | with_reducible exact Below.refl _ _ | with_reducible assumption | with_reducible refine b_alloc ?_ _ | with_reducible refine b_drewN ?_ _ | with_reducible refine b_drew ?_ | with_reducible refine b_set ?_ (by first | (simp only [World.size_setCell, World.size_alloc, World.size_drew]; omega) | (simp; done) | (simp; omega)) _ | with_reducible refine b_step ?_ (by with_reducible assumption))) hb); have hz := hb.size; (try simp at hz); have yw1_0 : w.heap.size < w1.heap.size := (by omega))
  all_goals go_ret
  all_goals exact ⟨rfl, (by repeat' (first | with_reducible exact Below.refl _ _ | with_reducible assumption | with_reducible refine b_alloc ?_ _ | with_reducible refine b_drewN ?_ _ | with_reducible refine b_drew ?_ | with_reducible refine b_set ?_ (by first | (simp only [World.size_setCell, World.size_alloc, World.size_drew]; omega) | (simp; done) | (simp; omega)) _ | with_reducible refine b_step ?_ (by with_reducible assumption)))⟩
end Go.Proofs.Ytkpnjnkfbhomgaa
