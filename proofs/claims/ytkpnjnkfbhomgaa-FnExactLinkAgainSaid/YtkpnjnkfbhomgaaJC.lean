/- The laws' helpers for words and aircraft. -/
import Derived.Test.YtkpnjnkfbhomgaaJA
import Derived.Test.YtkpnjnkfbhomgaaJ5
import Derived.Test.YtkpnjnkfbhomgaaJ6
import Derived.Test.YtkpnjnkfbhomgaaJB
import Derived.Test.YtkpnjnkfbhomgaaJ8

set_option linter.unusedVariables false
set_option linter.unusedSimpArgs false
namespace Go.Proofs.Ytkpnjnkfbhomgaa
open Go.RowKit
attribute [local go_sem] w_lt_add w_le_of w_le_add max2_i min2_i
/-- two rows of different kinds lie in different blocks -/
theorem own_kinds {α β : Type} {enc : α → List Value} {enc' : β → List Value} {sz bytes e sz' bytes' e' : Nat} {w : World} {v v' : Value} {xs : List α} {ys : List β} (h : Own enc sz bytes e w v xs) (h' : Own enc' sz' bytes' e' w v' ys) (ht : e ≠ e') : ∀ k, v.ownBlock = some k → ¬ v'.ownBlock = some k := fun k hk hk' => by
  rcases h.row.2 with ⟨rfl, _⟩ | ⟨g, cap, cur, rfl, _, hh, _⟩
  · simp [Value.ownBlock] at hk
  · rcases h'.row.2 with ⟨rfl, _⟩ | ⟨g', cap', cur', rfl, _, hh', _⟩
    · simp [Value.ownBlock] at hk'
    · simp [Value.ownBlock] at hk hk'
      subst hk
      subst hk'
      rw [hh] at hh'
      injection hh' with hh'
      injection hh' with _ h1
      exact ht h1
/-! ### words -/
def wordV (x : LL.Word) (A : Option Addr) (c : Nat) : Value := .agg #[.int .i64 x.kind, .string x.name, .int .i64 x.number, .int .i64 x.path.q, .int .i64 x.path.s, .slice A x.path.steps.length c, .int .i64 x.path.fr, .int .i64 x.path.by_]
abbrev OwnP (w : World) (A : Option Addr) (c : Nat) (p : LL.Path) : Prop := Own stepC 7 56 146 w (.slice A p.steps.length c) p.steps
/-- a call has made a word -/
def MkWd (w : World) (x : LL.Word) (en : Ending) (w' : World) : Prop := ∃ A c, en = .returned (.agg #[.int .i64 x.kind, .string x.name, .int .i64 x.number, .int .i64 x.path.q, .int .i64 x.path.s, .slice A x.path.steps.length c, .int .i64 x.path.fr, .int .i64 x.path.by_]) ∧ OwnP w' A c x.path ∧ (∀ k, Value.ownBlock (.slice A x.path.steps.length c) = some k → w.heap.size ≤ k) ∧ Below w.heap.size w w'
set_option maxHeartbeats 2000000 in
theorem toLinkWord_c (x : LL.Word) (A : Option Addr) (c : Nat) (w : World) (h : RdS w A x.path.steps.length c x.path.steps) : Calls Try.prog 29 #[.agg #[.int .i64 x.kind, .string x.name, .int .i64 x.number, .int .i64 x.path.q, .int .i64 x.path.s, .slice A x.path.steps.length c, .int .i64 x.path.fr, .int .i64 x.path.by_]] w (MkWd w x) := by
  go_enter Try.func29, Try.ntmps29
  go_wp2_with fail
  refine calls_name (fun W => Below w.heap.size w W ∧ Blk W w.heap.size #[.int .i64 x.kind, .string x.name, .int .i64 x.number, .int .i64 x.path.q, .int .i64 x.path.s, .slice A x.path.steps.length c, .int .i64 x.path.fr, .int .i64 x.path.by_] 58 ∧ Blk W (w.heap.size + 1) #[.int .i64 0, .string ⟨#[]⟩, .int .i64 0, .int .i64 0, .int .i64 0, .slice none 0 0, .int .i64 0, .int .i64 0] 46 ∧ Blk W (w.heap.size + 1 + 1) #[.int .i64 x.kind, .string x.name, .int .i64 x.number, .int .i64 0, .int .i64 0, .slice none 0 0, .int .i64 0, .int .i64 0] 46) ⟨(by repeat' (first | with_reducible exact Below.refl _ _ | with_reducible assumption | with_reducible refine b_alloc ?_ _ | with_reducible refine b_drewN ?_ _ | with_reducible refine b_drew ?_ | with_reducible refine b_set ?_ (by first | (simp only [World.size_setCell, World.size_alloc, World.size_drew]; omega) | (simp; done) | (simp; omega)) _ | with_reducible refine b_step ?_ (by with_reducible assumption))), (by repeat' (first | with_reducible assumption | with_reducible exact Blk.new _ _ _ | with_reducible exact Blk.new' _ _ (by first | (simp only [World.size_alloc, World.size_setCell, World.size_drew]; done) | (simp only [World.size_alloc, World.size_setCell, World.size_drew]; omega) | omega) | with_reducible refine Blk.a ?_ _ | with_reducible refine Blk.d ?_ | with_reducible refine Blk.dN ?_ _ | with_reducible refine Blk.s ?_ (by simp only [ne_eq]; omega) _ | with_reducible refine Blk.b ?_ (by with_reducible assumption))), (by repeat' (first | with_reducible assumption | with_reducible exact Blk.new _ _ _ | with_reducible exact Blk.new' _ _ (by first | (simp only [World.size_alloc, World.size_setCell, World.size_drew]; done) | (simp only [World.size_alloc, World.size_setCell, World.size_drew]; omega) | omega) | with_reducible refine Blk.a ?_ _ | with_reducible refine Blk.d ?_ | with_reducible refine Blk.dN ?_ _ | with_reducible refine Blk.s ?_ (by simp only [ne_eq]; omega) _ | with_reducible refine Blk.b ?_ (by with_reducible assumption))), (by repeat' (first | with_reducible assumption | with_reducible exact Blk.new _ _ _ | with_reducible exact Blk.new' _ _ (by first | (simp only [World.size_alloc, World.size_setCell, World.size_drew]; done) | (simp only [World.size_alloc, World.size_setCell, World.size_drew]; omega) | omega) | with_reducible refine Blk.a ?_ _ | with_reducible refine Blk.d ?_ | with_reducible refine Blk.dN ?_ _ | with_reducible refine Blk.s ?_ (by simp only [ne_eq]; omega) _ | with_reducible refine Blk.b ?_ (by with_reducible assumption)))⟩ ?_
  rintro W1 ⟨hb, kA, kR, kX⟩
  have hX1 := kX.cells.2.2
  refine (toFlyPath_c x.path A c _ (h.mono hb)).mono ?_
  intro e W2 hM
  obtain ⟨A1, c1, rfl, hO, hOg, hB⟩ := hM.gop
  have hO2 : ∀ k, Value.ownBlock (.slice A1 x.path.steps.length c1) = some k → w.heap.size + 1 + 1 < k := fun k hk => by have := hOg k hk; omega
  replace hb := b_step hb hB; replace kA := kA.b hB; replace kR := kR.b hB; replace kX := kX.b hB; clear hB
  clear hM hOg
  obtain ⟨ekA, fkA, lkA⟩ := kA.cells; obtain ⟨ekR, fkR, lkR⟩ := kR.cells; obtain ⟨ekX, fkX, lkX⟩ := kX.cells
  go_wp21
  (refine bodyPost_ret (res_c rfl _ [.int .i64 x.kind, .string x.name, .int .i64 x.number, .int .i64 x.path.q, .int .i64 x.path.s, .slice A1 x.path.steps.length c1, .int .i64 x.path.fr, .int .i64 x.path.by_] rfl _ Try.underlying46 rfl (by kernel_rfl) (by simp only [CellsAt, and_true]; and_intros <;> go_simp)) rfl ?_)
  exact ⟨A1, c1, rfl, (by repeat' (first | with_reducible assumption | with_reducible refine Own.s ?_ _ (fun k hk => by have := hO2 k hk; (try simp only); omega) | with_reducible refine Own.a ?_ _ | with_reducible refine Own.d ?_ | with_reducible refine Own.dN ?_ _ | with_reducible refine Own.b ?_ (by with_reducible assumption))), fun k hk => by have := hO2 k hk; omega, (by repeat' (first | with_reducible exact Below.refl _ _ | with_reducible assumption | with_reducible refine b_alloc ?_ _ | with_reducible refine b_drewN ?_ _ | with_reducible refine b_drew ?_ | with_reducible refine b_set ?_ (by first | (simp only [World.size_setCell, World.size_alloc, World.size_drew]; omega) | (simp; done) | (simp; omega)) _ | with_reducible refine b_step ?_ (by with_reducible assumption)))⟩
theorem szLinkWord_c (x : LL.Word) (left : Int) (A : Option Addr) (c : Nat) (w : World) (h0 : 0 ≤ left) (h1 : left ≤ 1048576) (hs : x.name.size ≤ 9223372036854775807) (hn : x.path.steps.length ≤ 140737488355328) : Calls Try.prog 27 #[.agg #[.int .i64 x.kind, .string x.name, .int .i64 x.number, .int .i64 x.path.q, .int .i64 x.path.s, .slice A x.path.steps.length c, .int .i64 x.path.fr, .int .i64 x.path.by_], .int .i64 left] w fun e w' => e = .returned (.int .i64 (LL.szT left x.name.size x.path.steps.length)) ∧ Below w.heap.size w w' := by
  have hs' : (x.name.size : Int) ≤ 9223372036854775807 := by omega
  by_cases hl : left - x.name.size < 0
  · have hT : LL.szT left x.name.size x.path.steps.length = -1 := by unfold LL.szT; rw [if_pos hl]
    have HT := Lib.hid hT
    clear hT
    go_enter Try.func27, Try.ntmps27
    go_wp2_with fail
    go_ret
    exact ⟨ri HT.out.symm, (by repeat' (first | with_reducible exact Below.refl _ _ | with_reducible assumption | with_reducible refine b_alloc ?_ _ | with_reducible refine b_drewN ?_ _ | with_reducible refine b_drew ?_ | with_reducible refine b_set ?_ (by first | (simp only [World.size_setCell, World.size_alloc, World.size_drew]; omega) | (simp; done) | (simp; omega)) _ | with_reducible refine b_step ?_ (by with_reducible assumption)))⟩
  · have hT : LL.szT left x.name.size x.path.steps.length = LL.sz (left - x.name.size) x.path.steps.length := by unfold LL.szT; rw [if_neg hl]
    have HT := Lib.hid hT
    clear hT
    go_enter Try.func27, Try.ntmps27
    go_wp2_with (go_at_call 32; go_loud (refine (szFlyPath_c _ _ _ _ _ _ _ _ _ (by omega) (by omega) hn).mono ?_); rintro e w1 ⟨rfl, hb⟩; (repeat (with_reducible first | replace hb := b_un hb | replace hb := b_unN hb)); obtain ⟨hc, hf, hl⟩ := bcell hb; obtain ⟨gc, gf, gl⟩ := bcell (b_step (w := w) (by repeat' (first | with_reducible exact Below.refl _ _ | with_reducible assumption | with_reducible refine b_alloc ?_ _ | with_reducible refine b_drewN ?_ _ | with_reducible refine b_drew ?_ | with_reducible refine b_set ?_ (by first | (simp only [World.size_setCell, World.size_alloc, World.size_drew]; omega) | (simp; done) | (simp; omega)) _ | with_reducible refine b_step ?_ (by with_reducible assumption))) hb); have hz := hb.size; (try simp at hz); have yw1_0 : w.heap.size < w1.heap.size := (by omega))
    all_goals go_ret
    all_goals exact ⟨ri (by rw [HT.out]; first | done | (simp only [LL.sz] at *; (try omega))), (by repeat' (first | with_reducible exact Below.refl _ _ | with_reducible assumption | with_reducible refine b_alloc ?_ _ | with_reducible refine b_drewN ?_ _ | with_reducible refine b_drew ?_ | with_reducible refine b_set ?_ (by first | (simp only [World.size_setCell, World.size_alloc, World.size_drew]; omega) | (simp; done) | (simp; omega)) _ | with_reducible refine b_step ?_ (by with_reducible assumption)))⟩
set_option maxHeartbeats 2000000 in
theorem eqLinkWord_c (x : LL.Word) (A A' : Option Addr) (c c' : Nat) (w : World) (h : RdS w A x.path.steps.length c x.path.steps) (h' : RdS w A' x.path.steps.length c' x.path.steps) : Calls Try.prog 23 #[.agg #[.int .i64 x.kind, .string x.name, .int .i64 x.number, .int .i64 x.path.q, .int .i64 x.path.s, .slice A x.path.steps.length c, .int .i64 x.path.fr, .int .i64 x.path.by_], .agg #[.int .i64 x.kind, .string x.name, .int .i64 x.number, .int .i64 x.path.q, .int .i64 x.path.s, .slice A' x.path.steps.length c', .int .i64 x.path.fr, .int .i64 x.path.by_]] w fun e w' => e = .returned (.bool true) ∧ Below w.heap.size w w' := by
  go_enter Try.func23, Try.ntmps23
  go_wp2_with (go_at_call 36; go_loud (refine (eqFlyPath_c _ _ _ _ _ _ (by exact Rd.mono (by with_reducible assumption) (by repeat' (first | with_reducible exact Below.refl _ _ | with_reducible assumption | with_reducible refine b_alloc ?_ _ | with_reducible refine b_drewN ?_ _ | with_reducible refine b_drew ?_ | with_reducible refine b_set ?_ (by first | (simp only [World.size_setCell, World.size_alloc, World.size_drew]; omega) | (simp; done) | (simp; omega)) _ | with_reducible refine b_step ?_ (by with_reducible assumption)))) (by exact Rd.mono (by with_reducible assumption) (by repeat' (first | with_reducible exact Below.refl _ _ | with_reducible assumption | with_reducible refine b_alloc ?_ _ | with_reducible refine b_drewN ?_ _ | with_reducible refine b_drew ?_ | with_reducible refine b_set ?_ (by first | (simp only [World.size_setCell, World.size_alloc, World.size_drew]; omega) | (simp; done) | (simp; omega)) _ | with_reducible refine b_step ?_ (by with_reducible assumption))))).mono ?_); rintro e w1 ⟨rfl, hb⟩; (repeat (with_reducible first | replace hb := b_un hb | replace hb := b_unN hb)); obtain ⟨hc, hf, hl⟩ := bcell hb; obtain ⟨gc, gf, gl⟩ := bcell (b_step (w := w) (by repeat' (first | with_reducible exact Below.refl _ _ | with_reducible assumption | with_reducible refine b_alloc ?_ _ | with_reducible refine b_drewN ?_ _ | with_reducible refine b_drew ?_ | with_reducible refine b_set ?_ (by first | (simp only [World.size_setCell, World.size_alloc, World.size_drew]; omega) | (simp; done) | (simp; omega)) _ | with_reducible refine b_step ?_ (by with_reducible assumption))) hb); have hz := hb.size; (try simp at hz); have yw1_0 : w.heap.size < w1.heap.size := (by omega); have yw1_1 : w.heap.size + 1 < w1.heap.size := (by omega))
  go_ret
  exact ⟨rfl, (by repeat' (first | with_reducible exact Below.refl _ _ | with_reducible assumption | with_reducible refine b_alloc ?_ _ | with_reducible refine b_drewN ?_ _ | with_reducible refine b_drew ?_ | with_reducible refine b_set ?_ (by first | (simp only [World.size_setCell, World.size_alloc, World.size_drew]; omega) | (simp; done) | (simp; omega)) _ | with_reducible refine b_step ?_ (by with_reducible assumption)))⟩
/-! ### aircraft -/
abbrev OwnI (w : World) (F : Option Addr) (m : Nat) (f : List Int) : Prop := Own intC 1 8 3 w (.slice F f.length m) f
/-- the blocks of an aircraft -/
def FpC (x : LL.Craft) (A : Option Addr) (c : Nat) (F : Option Addr) (m : Nat) (k : Nat) : Prop := Value.ownBlock (.slice A x.path.steps.length c) = some k ∨ Value.ownBlock (.slice F x.flown.length m) = some k
/-- an aircraft whose rows are one's own -/
structure OwnCr (w : World) (x : LL.Craft) (A : Option Addr) (c : Nat) (F : Option Addr) (m : Nat) : Prop where
  p : OwnP w A c x.path
  f : OwnI w F m x.flown
theorem OwnCr.b {w w' : World} {x : LL.Craft} {A F : Option Addr} {c m : Nat} (h : OwnCr w x A c F m) (hb : Below w.heap.size w w') : OwnCr w' x A c F m := ⟨h.p.b hb, h.f.b hb⟩
theorem OwnCr.gS {w w' : World} {S : Nat → Prop} {x : LL.Craft} {A F : Option Addr} {c m : Nat} (h : OwnCr w x A c F m) (hg : GrownS w w' S) (hd : ∀ k, FpC x A c F m k → ¬ S k) : OwnCr w' x A c F m := ⟨h.p.gS hg fun k hk => hd k (.inl hk), h.f.gS hg fun k hk => hd k (.inr hk)⟩
theorem OwnCr.lt {w : World} {x : LL.Craft} {A F : Option Addr} {c m : Nat} (h : OwnCr w x A c F m) : ∀ k, FpC x A c F m k → k < w.heap.size := fun k hk => hk.elim (fun hk => (h.p.row.lt k hk).2) (fun hk => (h.f.row.lt k hk).2)
/-- a call has made an aircraft -/
def MkCr (w : World) (x : LL.Craft) (en : Ending) (w' : World) : Prop := ∃ A c F m, en = .returned (.agg #[.string x.name, .int .i64 x.number, .int .i64 x.no, .int .i64 x.path.q, .int .i64 x.path.s, .slice A x.path.steps.length c, .int .i64 x.path.fr, .int .i64 x.path.by_, .slice F x.flown.length m]) ∧ OwnCr w' x A c F m ∧ (∀ k, FpC x A c F m k → w.heap.size ≤ k) ∧ Below w.heap.size w w'
set_option maxHeartbeats 2000000 in
theorem toLinkCraft_c (x : LL.Craft) (A : Option Addr) (c : Nat) (F : Option Addr) (m : Nat) (w : World) (h : RdS w A x.path.steps.length c x.path.steps) (hF : RdI w F x.flown.length m x.flown) : Calls Try.prog 41 #[.agg #[.string x.name, .int .i64 x.number, .int .i64 x.no, .int .i64 x.path.q, .int .i64 x.path.s, .slice A x.path.steps.length c, .int .i64 x.path.fr, .int .i64 x.path.by_, .slice F x.flown.length m]] w (MkCr w x) := by
  go_enter Try.func41, Try.ntmps41
  go_wp2_with fail
  refine calls_name (fun W => Below w.heap.size w W ∧ Blk W w.heap.size #[.string x.name, .int .i64 x.number, .int .i64 x.no, .int .i64 x.path.q, .int .i64 x.path.s, .slice A x.path.steps.length c, .int .i64 x.path.fr, .int .i64 x.path.by_, .slice F x.flown.length m] 71 ∧ Blk W (w.heap.size + 1) #[.string ⟨#[]⟩, .int .i64 0, .int .i64 0, .int .i64 0, .int .i64 0, .slice none 0 0, .int .i64 0, .int .i64 0, .slice none 0 0] 74 ∧ Blk W (w.heap.size + 1 + 1) #[.string x.name, .int .i64 x.number, .int .i64 x.no, .int .i64 0, .int .i64 0, .slice none 0 0, .int .i64 0, .int .i64 0, .slice none 0 0] 74) ⟨(by repeat' (first | with_reducible exact Below.refl _ _ | with_reducible assumption | with_reducible refine b_alloc ?_ _ | with_reducible refine b_drewN ?_ _ | with_reducible refine b_drew ?_ | with_reducible refine b_set ?_ (by first | (simp only [World.size_setCell, World.size_alloc, World.size_drew]; omega) | (simp; done) | (simp; omega)) _ | with_reducible refine b_step ?_ (by with_reducible assumption))), (by repeat' (first | with_reducible assumption | with_reducible exact Blk.new _ _ _ | with_reducible exact Blk.new' _ _ (by first | (simp only [World.size_alloc, World.size_setCell, World.size_drew]; done) | (simp only [World.size_alloc, World.size_setCell, World.size_drew]; omega) | omega) | with_reducible refine Blk.a ?_ _ | with_reducible refine Blk.d ?_ | with_reducible refine Blk.dN ?_ _ | with_reducible refine Blk.s ?_ (by simp only [ne_eq]; omega) _ | with_reducible refine Blk.b ?_ (by with_reducible assumption))), (by repeat' (first | with_reducible assumption | with_reducible exact Blk.new _ _ _ | with_reducible exact Blk.new' _ _ (by first | (simp only [World.size_alloc, World.size_setCell, World.size_drew]; done) | (simp only [World.size_alloc, World.size_setCell, World.size_drew]; omega) | omega) | with_reducible refine Blk.a ?_ _ | with_reducible refine Blk.d ?_ | with_reducible refine Blk.dN ?_ _ | with_reducible refine Blk.s ?_ (by simp only [ne_eq]; omega) _ | with_reducible refine Blk.b ?_ (by with_reducible assumption))), (by repeat' (first | with_reducible assumption | with_reducible exact Blk.new _ _ _ | with_reducible exact Blk.new' _ _ (by first | (simp only [World.size_alloc, World.size_setCell, World.size_drew]; done) | (simp only [World.size_alloc, World.size_setCell, World.size_drew]; omega) | omega) | with_reducible refine Blk.a ?_ _ | with_reducible refine Blk.d ?_ | with_reducible refine Blk.dN ?_ _ | with_reducible refine Blk.s ?_ (by simp only [ne_eq]; omega) _ | with_reducible refine Blk.b ?_ (by with_reducible assumption)))⟩ ?_
  rintro W1 ⟨hb, kA, kR, kX⟩
  have hX1 := kX.cells.2.2
  refine (toFlyPath_c x.path A c _ (h.mono hb)).mono ?_
  intro e W2 hM
  obtain ⟨A1, c1, rfl, hO, hOg, hB⟩ := hM.gop
  have hO2 : ∀ k, Value.ownBlock (.slice A1 x.path.steps.length c1) = some k → w.heap.size + 1 + 1 < k := fun k hk => by have := hOg k hk; omega
  replace hb := b_step hb hB; replace kA := kA.b hB; replace kR := kR.b hB; replace kX := kX.b hB; clear hB
  clear hM hOg
  obtain ⟨ekA, fkA, lkA⟩ := kA.cells; obtain ⟨ekX, fkX, lkX⟩ := kX.cells
  go_wp2_with fail
  refine calls_name (fun W => Below w.heap.size w W ∧ Blk W (w.heap.size + 1) #[.string ⟨#[]⟩, .int .i64 0, .int .i64 0, .int .i64 0, .int .i64 0, .slice none 0 0, .int .i64 0, .int .i64 0, .slice none 0 0] 74 ∧ Blk W (w.heap.size + 1 + 1) #[.string x.name, .int .i64 x.number, .int .i64 x.no, .int .i64 x.path.q, .int .i64 x.path.s, .slice A1 x.path.steps.length c1, .int .i64 x.path.fr, .int .i64 x.path.by_, .slice none 0 0] 74 ∧ OwnP W A1 c1 x.path) ⟨(by repeat' (first | with_reducible exact Below.refl _ _ | with_reducible assumption | with_reducible refine b_alloc ?_ _ | with_reducible refine b_drewN ?_ _ | with_reducible refine b_drew ?_ | with_reducible refine b_set ?_ (by first | (simp only [World.size_setCell, World.size_alloc, World.size_drew]; omega) | (simp; done) | (simp; omega)) _ | with_reducible refine b_step ?_ (by with_reducible assumption))), (by repeat' (first | with_reducible assumption | with_reducible exact Blk.new _ _ _ | with_reducible exact Blk.new' _ _ (by first | (simp only [World.size_alloc, World.size_setCell, World.size_drew]; done) | (simp only [World.size_alloc, World.size_setCell, World.size_drew]; omega) | omega) | with_reducible refine Blk.a ?_ _ | with_reducible refine Blk.d ?_ | with_reducible refine Blk.dN ?_ _ | with_reducible refine Blk.s ?_ (by simp only [ne_eq]; omega) _ | with_reducible refine Blk.b ?_ (by with_reducible assumption))), by simpa using ((((kX.put 3 (.int .i64 x.path.q)).put 4 (.int .i64 x.path.s)).put 5 (.slice A1 x.path.steps.length c1)).put 6 (.int .i64 x.path.fr)).put 7 (.int .i64 x.path.by_), (by repeat' (first | with_reducible assumption | with_reducible refine Own.s ?_ _ (fun k hk => by have := hO2 k hk; (try simp only); omega) | with_reducible refine Own.a ?_ _ | with_reducible refine Own.d ?_ | with_reducible refine Own.dN ?_ _ | with_reducible refine Own.b ?_ (by with_reducible assumption)))⟩ ?_
  clear ekA fkA lkA ekX fkX lkX
  clear hb kA kR kX hO
  rintro W3 ⟨hb, kR, kX, hO⟩
  have hX3 := kX.cells.2.2
  refine (toIntS_c x.flown F m _ (hF.mono hb)).mono ?_
  intro e W4 hM
  obtain ⟨F1, m1, rfl, hQ, hQg, hB⟩ := hM.go intE
  have hQ2 : ∀ k, Value.ownBlock (.slice F1 x.flown.length m1) = some k → w.heap.size + 1 + 1 < k := fun k hk => by have := hQg k hk; omega
  replace hb := b_step hb hB; replace kR := kR.b hB; replace kX := kX.b hB; replace hO := hO.b hB; clear hB
  clear hM hQg
  obtain ⟨ekR, fkR, lkR⟩ := kR.cells; obtain ⟨ekX, fkX, lkX⟩ := kX.cells
  go_wp2_with fail
  (refine bodyPost_ret (res_c rfl _ [.string x.name, .int .i64 x.number, .int .i64 x.no, .int .i64 x.path.q, .int .i64 x.path.s, .slice A1 x.path.steps.length c1, .int .i64 x.path.fr, .int .i64 x.path.by_, .slice F1 x.flown.length m1] rfl _ Try.underlying74 rfl (by kernel_rfl) (by simp only [CellsAt, and_true]; and_intros <;> go_simp)) rfl ?_)
  exact ⟨A1, c1, F1, m1, rfl, ⟨(by repeat' (first | with_reducible assumption | with_reducible refine Own.s ?_ _ (fun k hk => by have := hO2 k hk; (try simp only); omega) | with_reducible refine Own.a ?_ _ | with_reducible refine Own.d ?_ | with_reducible refine Own.dN ?_ _ | with_reducible refine Own.b ?_ (by with_reducible assumption))), (by repeat' (first | with_reducible assumption | with_reducible refine Own.s ?_ _ (fun k hk => by have := hQ2 k hk; (try simp only); omega) | with_reducible refine Own.a ?_ _ | with_reducible refine Own.d ?_ | with_reducible refine Own.dN ?_ _ | with_reducible refine Own.b ?_ (by with_reducible assumption)))⟩, fun k hk => hk.elim (fun hk => by have := hO2 k hk; omega) (fun hk => by have := hQ2 k hk; omega), (by repeat' (first | with_reducible exact Below.refl _ _ | with_reducible assumption | with_reducible refine b_alloc ?_ _ | with_reducible refine b_drewN ?_ _ | with_reducible refine b_drew ?_ | with_reducible refine b_set ?_ (by first | (simp only [World.size_setCell, World.size_alloc, World.size_drew]; omega) | (simp; done) | (simp; omega)) _ | with_reducible refine b_step ?_ (by with_reducible assumption)))⟩
set_option maxHeartbeats 2000000 in
theorem eqLinkCraft_c (x : LL.Craft) (A A' : Option Addr) (c c' : Nat) (F F' : Option Addr) (m m' : Nat) (w : World) (h : OwnCr w x A c F m) (h' : OwnCr w x A' c' F' m') : Calls Try.prog 43 #[.agg #[.string x.name, .int .i64 x.number, .int .i64 x.no, .int .i64 x.path.q, .int .i64 x.path.s, .slice A x.path.steps.length c, .int .i64 x.path.fr, .int .i64 x.path.by_, .slice F x.flown.length m], .agg #[.string x.name, .int .i64 x.number, .int .i64 x.no, .int .i64 x.path.q, .int .i64 x.path.s, .slice A' x.path.steps.length c', .int .i64 x.path.fr, .int .i64 x.path.by_, .slice F' x.flown.length m']] w fun e w' => e = .returned (.bool true) ∧ Below w.heap.size w w' := by
  have r1 := h.p.rd_at' stepE
  have r2 := h'.p.rd_at' stepE
  have r3 := h.f.rd_at' intE
  have r4 := h'.f.rd_at' intE
  clear h h'
  go_enter Try.func43, Try.ntmps43
  go_wp2_with (first | (go_at_call 36; go_loud (refine (eqFlyPath_c _ _ _ _ _ _ (by exact Rd.mono (by with_reducible assumption) (by repeat' (first | with_reducible exact Below.refl _ _ | with_reducible assumption | with_reducible refine b_alloc ?_ _ | with_reducible refine b_drewN ?_ _ | with_reducible refine b_drew ?_ | with_reducible refine b_set ?_ (by first | (simp only [World.size_setCell, World.size_alloc, World.size_drew]; omega) | (simp; done) | (simp; omega)) _ | with_reducible refine b_step ?_ (by with_reducible assumption)))) (by exact Rd.mono (by with_reducible assumption) (by repeat' (first | with_reducible exact Below.refl _ _ | with_reducible assumption | with_reducible refine b_alloc ?_ _ | with_reducible refine b_drewN ?_ _ | with_reducible refine b_drew ?_ | with_reducible refine b_set ?_ (by first | (simp only [World.size_setCell, World.size_alloc, World.size_drew]; omega) | (simp; done) | (simp; omega)) _ | with_reducible refine b_step ?_ (by with_reducible assumption))))).mono ?_); rintro e w1 ⟨rfl, hb⟩; (repeat (with_reducible first | replace hb := b_un hb | replace hb := b_unN hb)); obtain ⟨hc, hf, hl⟩ := bcell hb; obtain ⟨gc, gf, gl⟩ := bcell (b_step (w := w) (by repeat' (first | with_reducible exact Below.refl _ _ | with_reducible assumption | with_reducible refine b_alloc ?_ _ | with_reducible refine b_drewN ?_ _ | with_reducible refine b_drew ?_ | with_reducible refine b_set ?_ (by first | (simp only [World.size_setCell, World.size_alloc, World.size_drew]; omega) | (simp; done) | (simp; omega)) _ | with_reducible refine b_step ?_ (by with_reducible assumption))) hb); have hz := hb.size; (try simp at hz); have yw1_0 : w.heap.size < w1.heap.size := (by omega); have yw1_1 : w.heap.size + 1 < w1.heap.size := (by omega)) | (go_at_call 98; go_loud (refine (eqIntS_c _ _ _ _ _ _ (by exact Rd.mono (by with_reducible assumption) (by repeat' (first | with_reducible exact Below.refl _ _ | with_reducible assumption | with_reducible refine b_alloc ?_ _ | with_reducible refine b_drewN ?_ _ | with_reducible refine b_drew ?_ | with_reducible refine b_set ?_ (by first | (simp only [World.size_setCell, World.size_alloc, World.size_drew]; omega) | (simp; done) | (simp; omega)) _ | with_reducible refine b_step ?_ (by with_reducible assumption)))) (by exact Rd.mono (by with_reducible assumption) (by repeat' (first | with_reducible exact Below.refl _ _ | with_reducible assumption | with_reducible refine b_alloc ?_ _ | with_reducible refine b_drewN ?_ _ | with_reducible refine b_drew ?_ | with_reducible refine b_set ?_ (by first | (simp only [World.size_setCell, World.size_alloc, World.size_drew]; omega) | (simp; done) | (simp; omega)) _ | with_reducible refine b_step ?_ (by with_reducible assumption))))).mono ?_); rintro e w1 ⟨rfl, hb⟩; (repeat (with_reducible first | replace hb := b_un hb | replace hb := b_unN hb)); obtain ⟨hc, hf, hl⟩ := bcell hb; obtain ⟨gc, gf, gl⟩ := bcell (b_step (w := w) (by repeat' (first | with_reducible exact Below.refl _ _ | with_reducible assumption | with_reducible refine b_alloc ?_ _ | with_reducible refine b_drewN ?_ _ | with_reducible refine b_drew ?_ | with_reducible refine b_set ?_ (by first | (simp only [World.size_setCell, World.size_alloc, World.size_drew]; omega) | (simp; done) | (simp; omega)) _ | with_reducible refine b_step ?_ (by with_reducible assumption))) hb); have hz := hb.size; (try simp at hz); have yw1_0 : w.heap.size < w1.heap.size := (by omega); have yw1_1 : w.heap.size + 1 < w1.heap.size := (by omega)))
  go_ret
  exact ⟨rfl, (by repeat' (first | with_reducible exact Below.refl _ _ | with_reducible assumption | with_reducible refine b_alloc ?_ _ | with_reducible refine b_drewN ?_ _ | with_reducible refine b_drew ?_ | with_reducible refine b_set ?_ (by first | (simp only [World.size_setCell, World.size_alloc, World.size_drew]; omega) | (simp; done) | (simp; omega)) _ | with_reducible refine b_step ?_ (by with_reducible assumption)))⟩
def LL.szC (left : Int) (s n m : Nat) : Int := if LL.szT left s n < 0 then -1 else LL.sz (LL.szT left s n) m
theorem szLinkCraft_c (x : LL.Craft) (left : Int) (A : Option Addr) (c : Nat) (F : Option Addr) (m : Nat) (w : World) (h0 : 0 ≤ left) (h1 : left ≤ 1048576) (hs : x.name.size ≤ 9223372036854775807) (hn : x.path.steps.length ≤ 140737488355328) (hm : x.flown.length ≤ 140737488355328) : Calls Try.prog 39 #[.agg #[.string x.name, .int .i64 x.number, .int .i64 x.no, .int .i64 x.path.q, .int .i64 x.path.s, .slice A x.path.steps.length c, .int .i64 x.path.fr, .int .i64 x.path.by_, .slice F x.flown.length m], .int .i64 left] w fun e w' => e = .returned (.int .i64 (LL.szC left x.name.size x.path.steps.length x.flown.length)) ∧ Below w.heap.size w w' := by
  have hs' : (x.name.size : Int) ≤ 9223372036854775807 := by omega
  by_cases hl : left - x.name.size < 0
  · have hC : LL.szC left x.name.size x.path.steps.length x.flown.length = -1 := by unfold LL.szC LL.szT; rw [if_pos hl]; rfl
    have HC := Lib.hid hC
    clear hC
    go_enter Try.func39, Try.ntmps39
    go_wp2_with fail
    go_ret
    exact ⟨ri HC.out.symm, (by repeat' (first | with_reducible exact Below.refl _ _ | with_reducible assumption | with_reducible refine b_alloc ?_ _ | with_reducible refine b_drewN ?_ _ | with_reducible refine b_drew ?_ | with_reducible refine b_set ?_ (by first | (simp only [World.size_setCell, World.size_alloc, World.size_drew]; omega) | (simp; done) | (simp; omega)) _ | with_reducible refine b_step ?_ (by with_reducible assumption)))⟩
  · have hT : LL.szT left x.name.size x.path.steps.length = LL.sz (left - x.name.size) x.path.steps.length := by unfold LL.szT; rw [if_neg hl]
    have hle := LL.sz_le (left := left - x.name.size) (by omega) x.path.steps.length
    by_cases h2 : LL.sz (left - x.name.size) x.path.steps.length < 0
    · have hC : LL.szC left x.name.size x.path.steps.length x.flown.length = -1 := by unfold LL.szC; rw [hT, if_pos h2]
      have HC := Lib.hid hC
      clear hC hT
      go_enter Try.func39, Try.ntmps39
      go_wp2_with (go_at_call 32; go_loud (refine (szFlyPath_c _ _ _ _ _ _ _ _ _ (by omega) (by omega) hn).mono ?_); rintro e w1 ⟨rfl, hb⟩; (repeat (with_reducible first | replace hb := b_un hb | replace hb := b_unN hb)); obtain ⟨hc, hf, hl⟩ := bcell hb; obtain ⟨gc, gf, gl⟩ := bcell (b_step (w := w) (by repeat' (first | with_reducible exact Below.refl _ _ | with_reducible assumption | with_reducible refine b_alloc ?_ _ | with_reducible refine b_drewN ?_ _ | with_reducible refine b_drew ?_ | with_reducible refine b_set ?_ (by first | (simp only [World.size_setCell, World.size_alloc, World.size_drew]; omega) | (simp; done) | (simp; omega)) _ | with_reducible refine b_step ?_ (by with_reducible assumption))) hb); have hz := hb.size; (try simp at hz); have yw1_0 : w.heap.size < w1.heap.size := (by omega))
      go_ret
      exact ⟨ri HC.out.symm, (by repeat' (first | with_reducible exact Below.refl _ _ | with_reducible assumption | with_reducible refine b_alloc ?_ _ | with_reducible refine b_drewN ?_ _ | with_reducible refine b_drew ?_ | with_reducible refine b_set ?_ (by first | (simp only [World.size_setCell, World.size_alloc, World.size_drew]; omega) | (simp; done) | (simp; omega)) _ | with_reducible refine b_step ?_ (by with_reducible assumption)))⟩
    · have hC : LL.szC left x.name.size x.path.steps.length x.flown.length = LL.sz (LL.sz (left - x.name.size) x.path.steps.length) x.flown.length := by unfold LL.szC; rw [hT, if_neg h2]
      have HC := Lib.hid hC
      clear hC hT
      go_enter Try.func39, Try.ntmps39
      go_wp2_with fail
      refine calls_name (fun W => Below w.heap.size w W ∧ Blk W w.heap.size #[.string x.name, .int .i64 x.number, .int .i64 x.no, .int .i64 x.path.q, .int .i64 x.path.s, .slice A x.path.steps.length c, .int .i64 x.path.fr, .int .i64 x.path.by_, .slice F x.flown.length m] 71) ⟨(by repeat' (first | with_reducible exact Below.refl _ _ | with_reducible assumption | with_reducible refine b_alloc ?_ _ | with_reducible refine b_drewN ?_ _ | with_reducible refine b_drew ?_ | with_reducible refine b_set ?_ (by first | (simp only [World.size_setCell, World.size_alloc, World.size_drew]; omega) | (simp; done) | (simp; omega)) _ | with_reducible refine b_step ?_ (by with_reducible assumption))), (by repeat' (first | with_reducible assumption | with_reducible exact Blk.new _ _ _ | with_reducible exact Blk.new' _ _ (by first | (simp only [World.size_alloc, World.size_setCell, World.size_drew]; done) | (simp only [World.size_alloc, World.size_setCell, World.size_drew]; omega) | omega) | with_reducible refine Blk.a ?_ _ | with_reducible refine Blk.d ?_ | with_reducible refine Blk.dN ?_ _ | with_reducible refine Blk.s ?_ (by simp only [ne_eq]; omega) _ | with_reducible refine Blk.b ?_ (by with_reducible assumption)))⟩ ?_
      rintro W1 ⟨hb, kC⟩
      refine (szFlyPath_c _ _ _ _ _ _ _ _ _ (by omega) (by omega) hn).mono ?_
      rintro e W2 ⟨rfl, hB⟩
      replace hb := b_step hb hB; replace kC := kC.b hB; clear hB
      generalize LL.sz (left - x.name.size) x.path.steps.length = z at *
      have h3 : 0 ≤ z := by omega
      obtain ⟨ekC, fkC, lkC⟩ := kC.cells
      go_wp2_with (go_at_call 87; refine (szIntS_c _ _ _ _ _ (by omega) (by omega) hm).mono ?_; rintro e w' ⟨rfl, rfl⟩)
      all_goals go_ret
      all_goals exact ⟨ri (by rw [HC.out]; first | done | (simp only [LL.sz] at *; (try omega))), (by repeat' (first | with_reducible exact Below.refl _ _ | with_reducible assumption | with_reducible refine b_alloc ?_ _ | with_reducible refine b_drewN ?_ _ | with_reducible refine b_drew ?_ | with_reducible refine b_set ?_ (by first | (simp only [World.size_setCell, World.size_alloc, World.size_drew]; omega) | (simp; done) | (simp; omega)) _ | with_reducible refine b_step ?_ (by with_reducible assumption)))⟩
theorem markLinkCraft_c (x : LL.Craft) (A : Option Addr) (c : Nat) (F : Option Addr) (m : Nat) (k : Int) (h0 : 0 ≤ k) (h1 : k + 7 * (x.path.steps.length : Int) ≤ 1125899906842624) (w : World) (hO : OwnCr w x A c F m) : Calls Try.prog 44 #[.agg #[.string x.name, .int .i64 x.number, .int .i64 x.no, .int .i64 x.path.q, .int .i64 x.path.s, .slice A x.path.steps.length c, .int .i64 x.path.fr, .int .i64 x.path.by_, .slice F x.flown.length m], .int .i64 k] w fun e w' => e = .returned (.int .i64 (k + 7 * (x.path.steps.length : Int) + (x.flown.length : Int))) ∧ (Own stepC 7 56 146 w' (.slice A x.path.steps.length c) (LL.tab x.path.steps.length (LL.mkFlyStepS k)) ∧ Own intC 1 8 3 w' (.slice F x.flown.length m) (LL.tab x.flown.length (LL.mkIntS (k + 7 * (x.path.steps.length : Int))))) ∧ GrownS w w' (FpC x A c F m) := by
  have hPl := fun k hk => (hO.p.row.lt k hk).2
  have hFl := fun k hk => (hO.f.row.lt k hk).2
  obtain ⟨hP, hI⟩ := hO
  go_enter Try.func44, Try.ntmps44
  go_wp2_with fail
  refine calls_name (fun W => Below w.heap.size w W ∧ Blk W w.heap.size #[.string x.name, .int .i64 x.number, .int .i64 x.no, .int .i64 x.path.q, .int .i64 x.path.s, .slice A x.path.steps.length c, .int .i64 x.path.fr, .int .i64 x.path.by_, .slice F x.flown.length m] 74) ⟨(by repeat' (first | with_reducible exact Below.refl _ _ | with_reducible assumption | with_reducible refine b_alloc ?_ _ | with_reducible refine b_drewN ?_ _ | with_reducible refine b_drew ?_ | with_reducible refine b_set ?_ (by first | (simp only [World.size_setCell, World.size_alloc, World.size_drew]; omega) | (simp; done) | (simp; omega)) _ | with_reducible refine b_step ?_ (by with_reducible assumption))), (by repeat' (first | with_reducible assumption | with_reducible exact Blk.new _ _ _ | with_reducible exact Blk.new' _ _ (by first | (simp only [World.size_alloc, World.size_setCell, World.size_drew]; done) | (simp only [World.size_alloc, World.size_setCell, World.size_drew]; omega) | omega) | with_reducible refine Blk.a ?_ _ | with_reducible refine Blk.d ?_ | with_reducible refine Blk.dN ?_ _ | with_reducible refine Blk.s ?_ (by simp only [ne_eq]; omega) _ | with_reducible refine Blk.b ?_ (by with_reducible assumption)))⟩ ?_
  rintro W1 ⟨hb, kC⟩
  replace hP := hP.b hb
  replace hI := hI.b hb
  refine (markFlyPath_c x.path A c k h0 (by omega) _ hP).mono ?_
  rintro e W2 ⟨rfl, hP2, hg⟩
  replace hg := GrownS.of hg
  replace hI := hI.gS hg (fun j h9 h8 => own_kinds hI hP (by decide) j h9 h8)
  replace kC := kC.gS hg (fun h8 => by have := hPl _ h8; omega)
  have hg0 := (GrownS.below (S := FpC x A c F m) hb).trans (hg.mono (fun j hj => .inl hj))
  clear hb hP hg
  obtain ⟨ekC, fkC, lkC⟩ := kC.cells
  go_wp2_with fail
  refine calls_name (fun W => Below W2.heap.size W2 W) (by repeat' (first | with_reducible exact Below.refl _ _ | with_reducible assumption | with_reducible refine b_alloc ?_ _ | with_reducible refine b_drewN ?_ _ | with_reducible refine b_drew ?_ | with_reducible refine b_set ?_ (by first | (simp only [World.size_setCell, World.size_alloc, World.size_drew]; omega) | (simp; done) | (simp; omega)) _ | with_reducible refine b_step ?_ (by with_reducible assumption))) ?_
  intro W3 hE
  clear ekC fkC lkC
  replace hP2 := hP2.b hE
  replace hI := hI.b hE
  replace hg0 := hg0.trans (GrownS.below hE)
  clear hE kC
  refine (markIntS_c x.flown F m _ (by omega) h1 _ hI).mono ?_
  rintro e W4 ⟨rfl, hI2, hg⟩
  replace hg := GrownS.of hg
  replace hP2 := hP2.gS hg (fun j h9 h8 => own_kinds hP2 hI (by decide) j h9 h8)
  replace hg0 := hg0.trans (hg.mono (fun j hj => .inr hj))
  clear hg hI
  go_wp2_with fail
  go_ret
  exact ⟨rfl, ⟨hP2, hI2⟩, hg0⟩
theorem heldLinkCraft_c (x : LL.Craft) (A : Option Addr) (c : Nat) (F : Option Addr) (m : Nat) (k : Int) (h0 : 0 ≤ k) (h1 : k + 7 * (x.path.steps.length : Int) ≤ 1125899906842624) (w : World) (hP : RdS w A x.path.steps.length c (LL.tab x.path.steps.length (LL.mkFlyStepS k))) (hI : RdI w F x.flown.length m (LL.tab x.flown.length (LL.mkIntS (k + 7 * (x.path.steps.length : Int))))) : Calls Try.prog 45 #[.agg #[.string x.name, .int .i64 x.number, .int .i64 x.no, .int .i64 x.path.q, .int .i64 x.path.s, .slice A x.path.steps.length c, .int .i64 x.path.fr, .int .i64 x.path.by_, .slice F x.flown.length m], .int .i64 k] w fun e w' => e = .returned (.int .i64 (k + 7 * (x.path.steps.length : Int) + (x.flown.length : Int))) ∧ Below w.heap.size w w' := by
  go_enter Try.func45, Try.ntmps45
  go_wp2_with fail
  refine calls_name (fun W => Below w.heap.size w W ∧ Blk W w.heap.size #[.string x.name, .int .i64 x.number, .int .i64 x.no, .int .i64 x.path.q, .int .i64 x.path.s, .slice A x.path.steps.length c, .int .i64 x.path.fr, .int .i64 x.path.by_, .slice F x.flown.length m] 74) ⟨(by repeat' (first | with_reducible exact Below.refl _ _ | with_reducible assumption | with_reducible refine b_alloc ?_ _ | with_reducible refine b_drewN ?_ _ | with_reducible refine b_drew ?_ | with_reducible refine b_set ?_ (by first | (simp only [World.size_setCell, World.size_alloc, World.size_drew]; omega) | (simp; done) | (simp; omega)) _ | with_reducible refine b_step ?_ (by with_reducible assumption))), (by repeat' (first | with_reducible assumption | with_reducible exact Blk.new _ _ _ | with_reducible exact Blk.new' _ _ (by first | (simp only [World.size_alloc, World.size_setCell, World.size_drew]; done) | (simp only [World.size_alloc, World.size_setCell, World.size_drew]; omega) | omega) | with_reducible refine Blk.a ?_ _ | with_reducible refine Blk.d ?_ | with_reducible refine Blk.dN ?_ _ | with_reducible refine Blk.s ?_ (by simp only [ne_eq]; omega) _ | with_reducible refine Blk.b ?_ (by with_reducible assumption)))⟩ ?_
  rintro W1 ⟨hb, kC⟩
  refine (heldFlyPath_c x.path A c k h0 (by omega) _ (hP.mono hb)).mono ?_
  rintro e W2 ⟨rfl, hB⟩
  replace hb := b_step hb hB; replace kC := kC.b hB; clear hB
  obtain ⟨ekC, fkC, lkC⟩ := kC.cells
  go_wp2_with fail
  refine calls_name (fun W => Below W2.heap.size W2 W) (by repeat' (first | with_reducible exact Below.refl _ _ | with_reducible assumption | with_reducible refine b_alloc ?_ _ | with_reducible refine b_drewN ?_ _ | with_reducible refine b_drew ?_ | with_reducible refine b_set ?_ (by first | (simp only [World.size_setCell, World.size_alloc, World.size_drew]; omega) | (simp; done) | (simp; omega)) _ | with_reducible refine b_step ?_ (by with_reducible assumption))) ?_; intro W3 hE; clear ekC fkC lkC; replace hb := b_step hb hE; replace kC := kC.b hE; clear hE
  refine (heldIntS_c x.flown.length F m _ (by omega) h1 _ (hI.mono hb)).mono ?_
  rintro e W4 ⟨rfl, rfl⟩
  go_wp2_with fail
  go_ret
  exact ⟨rfl, hb⟩
theorem markLinkWord_c (x : LL.Word) (A : Option Addr) (c : Nat) (k : Int) (h0 : 0 ≤ k) (h1 : k ≤ 1125899906842624) (w : World) (hO : OwnP w A c x.path) : Calls Try.prog 25 #[.agg #[.int .i64 x.kind, .string x.name, .int .i64 x.number, .int .i64 x.path.q, .int .i64 x.path.s, .slice A x.path.steps.length c, .int .i64 x.path.fr, .int .i64 x.path.by_], .int .i64 k] w (MkM stepC 7 56 146 w (.slice A x.path.steps.length c) (k + 7 * (x.path.steps.length : Int)) (LL.tab x.path.steps.length (LL.mkFlyStepS k))) := by
  go_enter Try.func25, Try.ntmps25
  go_wp2_with (go_at_call 48; go_loud (refine (markFlyPath_c x.path A c k h0 h1 _ (hO.a _)).mono ?_); rintro e w2 ⟨rfl, hO2, hg⟩)
  go_ret
  exact ⟨rfl, hO2, (World.grownBy_alloc w _ _).trans hg⟩
theorem heldLinkWord_c (x : LL.Word) (A : Option Addr) (c : Nat) (k : Int) (h0 : 0 ≤ k) (h1 : k ≤ 1125899906842624) (w : World) (hR : RdS w A x.path.steps.length c (LL.tab x.path.steps.length (LL.mkFlyStepS k))) : Calls Try.prog 26 #[.agg #[.int .i64 x.kind, .string x.name, .int .i64 x.number, .int .i64 x.path.q, .int .i64 x.path.s, .slice A x.path.steps.length c, .int .i64 x.path.fr, .int .i64 x.path.by_], .int .i64 k] w fun e w' => e = .returned (.int .i64 (k + 7 * (x.path.steps.length : Int))) ∧ Below w.heap.size w w' := by
  go_enter Try.func26, Try.ntmps26
  go_wp2_with (go_at_call 72; go_loud (refine (heldFlyPath_c x.path A c k h0 h1 _ (by exact Rd.mono (by with_reducible assumption) (by repeat' (first | with_reducible exact Below.refl _ _ | with_reducible assumption | with_reducible refine b_alloc ?_ _ | with_reducible refine b_drewN ?_ _ | with_reducible refine b_drew ?_ | with_reducible refine b_set ?_ (by first | (simp only [World.size_setCell, World.size_alloc, World.size_drew]; omega) | (simp; done) | (simp; omega)) _ | with_reducible refine b_step ?_ (by with_reducible assumption))))).mono ?_); rintro e w1 ⟨rfl, hb⟩; (repeat (with_reducible first | replace hb := b_un hb | replace hb := b_unN hb)); obtain ⟨hc, hf, hl⟩ := bcell hb; obtain ⟨gc, gf, gl⟩ := bcell (b_step (w := w) (by repeat' (first | with_reducible exact Below.refl _ _ | with_reducible assumption | with_reducible refine b_alloc ?_ _ | with_reducible refine b_drewN ?_ _ | with_reducible refine b_drew ?_ | with_reducible refine b_set ?_ (by first | (simp only [World.size_setCell, World.size_alloc, World.size_drew]; omega) | (simp; done) | (simp; omega)) _ | with_reducible refine b_step ?_ (by with_reducible assumption))) hb); have hz := hb.size; (try simp at hz); have yw1_0 : w.heap.size < w1.heap.size := (by omega))
  all_goals go_ret
  all_goals exact ⟨rfl, (by repeat' (first | with_reducible exact Below.refl _ _ | with_reducible assumption | with_reducible refine b_alloc ?_ _ | with_reducible refine b_drewN ?_ _ | with_reducible refine b_drew ?_ | with_reducible refine b_set ?_ (by first | (simp only [World.size_setCell, World.size_alloc, World.size_drew]; omega) | (simp; done) | (simp; omega)) _ | with_reducible refine b_step ?_ (by with_reducible assumption)))⟩
end Go.Proofs.Ytkpnjnkfbhomgaa

/- The tube of a path from a tick on: LinkTube of the program and of the reference. -/
set_option linter.unusedVariables false
set_option linter.unusedSimpArgs false
namespace Go.Proofs.Ytkpnjnkfbhomgaa
open Go.RowKit
attribute [local go_sem] w_lt_add w_le_of w_le_add max2_i min2_i
theorem LL.tubeM_len (p : LL.Path) : (LL.tubeM p).length ≤ p.steps.length := by
  unfold LL.tubeM; split
  · rw [LL.tab_len]; exact Nat.le_refl _
  · simp
def LL.tk (xs : List LL.Box) (k : Nat) : List LL.Box := xs.take k
theorem LL.tk_len (xs : List LL.Box) (k : Nat) : (LL.tk xs k).length ≤ k := List.length_take_le _ _
theorem LL.tk_all (xs : List LL.Box) : LL.tk xs xs.length = xs := List.take_length
theorem LL.tk_on {xs : List LL.Box} {k : Nat} (h : k < xs.length) : LL.tk xs (k + 1) = LL.tk xs k ++ [LL.nthB xs k] := LL.take_nthB h
set_option maxRecDepth 100000 in
set_option maxHeartbeats 4000000 in
theorem impl_LinkTube_c (s : ByteArray) (p : LL.Path) (A : Option Addr) (c : Nat) (t : Int) (hs : s.size ≤ 9223372036854775807) (w : World) (h : RdS w A p.steps.length c p.steps) : Calls Try.prog 86 #[.string s, .agg #[.int .i64 p.q, .int .i64 p.s, .slice A p.steps.length c, .int .i64 p.fr, .int .i64 p.by_], .int .i64 t] w (MkT 133 w (LL.cutN s (LL.tubeM p)) (LL.cutL s (LL.tubeM p) t)) := by
  have hroom := h.room
  have hlx := LL.tubeM_len p
  go_enter Try.func86, Try.ntmps86
  go_wp2_with fail
  refine calls_name (fun W => Below w.heap.size w W ∧ Blk W (w.heap.size + 1) #[.string ⟨#[]⟩, .slice none 0 0] 91 ∧ Blk W (w.heap.size + 1 + 1) #[.string s, .slice none 0 0] 91) ⟨(by repeat' (first | with_reducible exact Below.refl _ _ | with_reducible assumption | with_reducible refine b_alloc ?_ _ | with_reducible refine b_drewN ?_ _ | with_reducible refine b_drew ?_ | with_reducible refine b_set ?_ (by first | (simp only [World.size_setCell, World.size_alloc, World.size_drew]; omega) | (simp; done) | (simp; omega)) _ | with_reducible refine b_step ?_ (by with_reducible assumption))), (by repeat' (first | with_reducible assumption | with_reducible exact Blk.new _ _ _ | with_reducible exact Blk.new' _ _ (by first | (simp only [World.size_alloc, World.size_setCell, World.size_drew]; done) | (simp only [World.size_alloc, World.size_setCell, World.size_drew]; omega) | omega) | with_reducible refine Blk.a ?_ _ | with_reducible refine Blk.d ?_ | with_reducible refine Blk.dN ?_ _ | with_reducible refine Blk.s ?_ (by simp only [ne_eq]; omega) _ | with_reducible refine Blk.b ?_ (by with_reducible assumption))), (by repeat' (first | with_reducible assumption | with_reducible exact Blk.new _ _ _ | with_reducible exact Blk.new' _ _ (by first | (simp only [World.size_alloc, World.size_setCell, World.size_drew]; done) | (simp only [World.size_alloc, World.size_setCell, World.size_drew]; omega) | omega) | with_reducible refine Blk.a ?_ _ | with_reducible refine Blk.d ?_ | with_reducible refine Blk.dN ?_ _ | with_reducible refine Blk.s ?_ (by simp only [ne_eq]; omega) _ | with_reducible refine Blk.b ?_ (by with_reducible assumption)))⟩ ?_
  rintro W1 ⟨hb, kR, kX⟩
  have hX1 := kX.cells.2.2
  refine (impl_FlyTube_c p A c _ (h.mono hb)).mono ?_
  generalize LL.tubeM p = xs at *
  intro e W2 hM
  obtain ⟨Ab, cb, rfl, hS, hSg, hB⟩ := hM.go boxE
  have hgx : w.heap.size + 1 < w.heap.size + 1 + 1 := by omega
  generalize hgg : w.heap.size + 1 + 1 = gx at *
  have Hgg := Lib.hid hgg
  clear hgg
  have hS2 : ∀ b, Value.ownBlock (.slice Ab xs.length cb) = some b → w.heap.size + 1 < b ∧ b ≠ gx := fun b hb => by have := hSg b hb; omega
  replace hb := b_step hb hB; replace kR := kR.b hB; replace kX := kX.b hB; clear hB
  clear hM hSg
  go_wp2_with fail
  go_loopw [15] (fun i wr => ∃ (k : Nat) (Ao : Option Addr) (co : Nat), k ≤ xs.length ∧ i = .int .i64 k ∧ Below w.heap.size w wr ∧ Blk wr (w.heap.size + 1) #[.string ⟨#[]⟩, .slice none 0 0] 91 ∧ Blk wr gx #[.string s, .slice Ao (LL.tk xs k).length co] 91 ∧ Own boxC 6 48 133 wr (.slice Ao (LL.tk xs k).length co) (LL.tk xs k) ∧ (∀ b, Value.ownBlock (.slice Ao (LL.tk xs k).length co) = some b → w.heap.size + 1 < b ∧ b ≠ gx) ∧ Own boxC 6 48 152 wr (.slice Ab xs.length cb) xs ∧ (∀ b, Value.ownBlock (.slice Ab xs.length cb) = some b → w.heap.size + 1 < b ∧ b ≠ gx)) (fun i _ => xs.length - (intOf i).toNat)
  case atStart => exact ⟨0, none, 0, Nat.zero_le _, rfl, hb, kR, kX, ⟨World.ownsRow_nil _ _ _ _, by simp [LL.tk]⟩, (fun b hb => by simp [Value.ownBlock] at hb), hS, hS2⟩
  case round =>
    clear hb kR kX hS hS2
    obtain ⟨k, Ao, co, hk, rfl, hb, kR, kX, hO, hO2, hS, hS2⟩ := hrel
    by_cases hlt : k < xs.length
    · have hOb := fun b hb => (hO.row.lt b hb).2
      have hSb := fun b hb => (hS.row.lt b hb).2
      have hgb := kX.cells.2.2
      have hRb := kR.cells.2.2
      have hlen : (LL.tk xs k).length ≤ k := LL.tk_len _ _
      have hdis := own_kinds hO hS (by decide)
      obtain ⟨g, rfl⟩ := hS.someA (by omega)
      obtain ⟨c0, c1, c2, c3, c4, c5⟩ := (hS.rd_at' boxE).S6 k hlt
      simp only [Nat.zero_add] at c0 c1 c2 c3 c4 c5
      have hgl := (hS.row.lt _ rfl).2
      have hgx := (hS2 _ rfl)
      dsimp only at hgl hgx
      obtain ⟨ekX, fkX, lkX⟩ := kX.cells
      have E := LL.tk_on hlt
      have Hlen := Lib.hid hlen
      clear hlen
      go_wp2_with (at_builtin; go_loud (refine wp_app (xs := LL.tk xs k) (ys := [LL.nthB xs k]) (bytes := 48) (e := 133) rfl _ _ _ rfl boxE (.agg (boxC LL.b0).toArray) Try.underlying89 (by kernel_rfl) rfl (by decide) (v := .slice Ao (LL.tk xs k).length co) rfl (by repeat' (first | with_reducible assumption | with_reducible refine Own.s ?_ _ (fun k hk => by have := hOb k hk; (try simp only); omega) | with_reducible refine Own.a ?_ _ | with_reducible refine Own.d ?_ | with_reducible refine Own.dN ?_ _ | with_reducible refine Own.b ?_ (by with_reducible assumption))) rfl (Rd.one (x := LL.nthB xs k) (Blk.new' _ _ (by simp)) rfl (by decide)) (by have := Hlen.out; omega) ?_); intro v7 w7 hO7 hg7 hat7; obtain ⟨A7, c7, rfl, -⟩ := hO7.rd boxE; have kX7 : Blk w7 gx #[.string s, .slice Ao (LL.tk xs k).length co] 91 := (by refine Blk.grown ?_ hg7 (fun e9 => (hO2 _ e9).2 rfl); exact (by repeat' (first | with_reducible assumption | with_reducible exact Blk.new _ _ _ | with_reducible exact Blk.new' _ _ (by first | (simp only [World.size_alloc, World.size_setCell, World.size_drew]; done) | (simp only [World.size_alloc, World.size_setCell, World.size_drew]; omega) | omega) | with_reducible refine Blk.a ?_ _ | with_reducible refine Blk.d ?_ | with_reducible refine Blk.dN ?_ _ | with_reducible refine Blk.s ?_ (by simp only [ne_eq]; omega) _ | with_reducible refine Blk.b ?_ (by with_reducible assumption)))); have kR7 : Blk w7 (w.heap.size + 1) #[.string ⟨#[]⟩, .slice none 0 0] 91 := (by refine Blk.grown ?_ hg7 (fun e9 => by have := (hO2 _ e9).1; omega); exact (by repeat' (first | with_reducible assumption | with_reducible exact Blk.new _ _ _ | with_reducible exact Blk.new' _ _ (by first | (simp only [World.size_alloc, World.size_setCell, World.size_drew]; done) | (simp only [World.size_alloc, World.size_setCell, World.size_drew]; omega) | omega) | with_reducible refine Blk.a ?_ _ | with_reducible refine Blk.d ?_ | with_reducible refine Blk.dN ?_ _ | with_reducible refine Blk.s ?_ (by simp only [ne_eq]; omega) _ | with_reducible refine Blk.b ?_ (by with_reducible assumption)))); have hb7 : Below w.heap.size w w7 := (by refine b_grown' ?_ hg7 ?_ (fun g' hg' => by have := (hO2 _ hg').1; omega); exact (by repeat' (first | with_reducible exact Below.refl _ _ | with_reducible assumption | with_reducible refine b_alloc ?_ _ | with_reducible refine b_drewN ?_ _ | with_reducible refine b_drew ?_ | with_reducible refine b_set ?_ (by first | (simp only [World.size_setCell, World.size_alloc, World.size_drew]; omega) | (simp; done) | (simp; omega)) _ | with_reducible refine b_step ?_ (by with_reducible assumption))); (simp only [World.size_setCell, World.size_alloc]; have := hb.size; omega)); have hS7 : Own boxC 6 48 152 w7 (.slice (some ⟨g, 0, none⟩) xs.length cb) xs := (by refine Own.gS ?_ (GrownS.of hg7) (fun j h1 h2 => hdis j h2 h1); exact (by repeat' (first | with_reducible assumption | with_reducible refine Own.s ?_ _ (fun k hk => by have := hSb k hk; (try simp only); omega) | with_reducible refine Own.a ?_ _ | with_reducible refine Own.d ?_ | with_reducible refine Own.dN ?_ _ | with_reducible refine Own.b ?_ (by with_reducible assumption)))); have hz7 := hg7.size; (simp only [World.size_setCell, World.size_alloc] at hz7 hat7); obtain ⟨eX7, fX7, lX7⟩ := kX7.cells)
      go_roundw
      case rel =>
        refine ⟨k + 1, A7, c7, by omega, by go_num, b_set hb7 (by simp only; omega) _, kR7.s (by simp only [ne_eq]; omega) _, by rw [E]; simpa using kX7.put 1 (.slice A7 (LL.tk xs k ++ [LL.nthB xs k]).length c7), ?_, fun j hj => ?_, hS7.s _ (fun j hj => (hS2 j hj).2), hS2⟩
        · rw [E]
          refine Own.s (v := .slice A7 (LL.tk xs k ++ [LL.nthB xs k]).length c7) hO7 _ (fun j hj => ?_)
          rcases hat7 with h9 | h9
          · rw [h9] at hj; exact (hO2 _ hj).2
          · rw [h9] at hj; cases hj; simp only; omega
        · rw [E] at hj
          rcases hat7 with h9 | h9
          · rw [h9] at hj; exact hO2 _ hj
          · rw [h9] at hj; cases hj; omega
      case measure => simp [intOf]; omega
    · obtain rfl : k = xs.length := by omega
      rw [LL.tk_all] at kX hO hO2
      obtain ⟨ekX, fkX, lkX⟩ := kX.cells
      go_wp2_with fail
      refine calls_name (fun W => Below w.heap.size w W ∧ Blk W (w.heap.size + 1) #[.string ⟨#[]⟩, .slice none 0 0] 91 ∧ RdB W Ao xs.length co xs) ⟨(by repeat' (first | with_reducible exact Below.refl _ _ | with_reducible assumption | with_reducible refine b_alloc ?_ _ | with_reducible refine b_drewN ?_ _ | with_reducible refine b_drew ?_ | with_reducible refine b_set ?_ (by first | (simp only [World.size_setCell, World.size_alloc, World.size_drew]; omega) | (simp; done) | (simp; omega)) _ | with_reducible refine b_step ?_ (by with_reducible assumption))), (by repeat' (first | with_reducible assumption | with_reducible exact Blk.new _ _ _ | with_reducible exact Blk.new' _ _ (by first | (simp only [World.size_alloc, World.size_setCell, World.size_drew]; done) | (simp only [World.size_alloc, World.size_setCell, World.size_drew]; omega) | omega) | with_reducible refine Blk.a ?_ _ | with_reducible refine Blk.d ?_ | with_reducible refine Blk.dN ?_ _ | with_reducible refine Blk.s ?_ (by simp only [ne_eq]; omega) _ | with_reducible refine Blk.b ?_ (by with_reducible assumption))), hO.rd_at' boxE⟩ ?_
      clear ekX fkX lkX
      clear hb kR
      rintro W3 ⟨hb, kR, hR⟩
      have hR3 := kR.cells.2.2
      refine (impl_ProbeCut_c s xs Ao co t hs _ hR).mono ?_
      rintro e W4 ⟨A1, c1, rfl, hO1, hOg, hB⟩
      have hO3 : ∀ k, Value.ownBlock (.slice A1 (LL.cutL s xs t).length c1) = some k → w.heap.size + 1 < k := fun k hk => by have := hOg k hk; omega
      replace hb := b_step hb hB; replace kR := kR.b hB; clear hB
      obtain ⟨ekR, fkR, lkR⟩ := kR.cells
      go_wp2_with fail
      (refine bodyPost_ret (res_c rfl _ [.string (LL.cutN s xs), .slice A1 (LL.cutL s xs t).length c1] rfl _ Try.underlying91 rfl (by kernel_rfl) (by simp only [CellsAt, and_true]; and_intros <;> go_simp)) rfl ?_)
      exact ⟨A1, c1, rfl, (by repeat' (first | with_reducible assumption | with_reducible refine Own.s ?_ _ (fun k hk => by have := hO3 k hk; (try simp only); omega) | with_reducible refine Own.a ?_ _ | with_reducible refine Own.d ?_ | with_reducible refine Own.dN ?_ _ | with_reducible refine Own.b ?_ (by with_reducible assumption))), fun k hk => by have := hO3 k hk; omega, (by repeat' (first | with_reducible exact Below.refl _ _ | with_reducible assumption | with_reducible refine b_alloc ?_ _ | with_reducible refine b_drewN ?_ _ | with_reducible refine b_drew ?_ | with_reducible refine b_set ?_ (by first | (simp only [World.size_setCell, World.size_alloc, World.size_drew]; omega) | (simp; done) | (simp; omega)) _ | with_reducible refine b_step ?_ (by with_reducible assumption)))⟩
set_option maxRecDepth 100000 in
set_option maxHeartbeats 4000000 in
theorem spec_l23Tube_c (s : ByteArray) (p : LL.Path) (A : Option Addr) (c : Nat) (w : World) (h : RdS w A p.steps.length c p.steps) : Calls Try.prog 139 #[.string s, .agg #[.int .i64 p.q, .int .i64 p.s, .slice A p.steps.length c, .int .i64 p.fr, .int .i64 p.by_]] w (MkT 133 w s (LL.tubeM p)) := by
  have hroom := h.room
  have hlx := LL.tubeM_len p
  go_enter Try.func139, Try.ntmps139
  go_wp2_with fail
  refine calls_name (fun W => Below w.heap.size w W ∧ Blk W (w.heap.size + 1) #[.string ⟨#[]⟩, .slice none 0 0] 91 ∧ Blk W (w.heap.size + 1 + 1) #[.string s, .slice none 0 0] 91) ⟨(by repeat' (first | with_reducible exact Below.refl _ _ | with_reducible assumption | with_reducible refine b_alloc ?_ _ | with_reducible refine b_drewN ?_ _ | with_reducible refine b_drew ?_ | with_reducible refine b_set ?_ (by first | (simp only [World.size_setCell, World.size_alloc, World.size_drew]; omega) | (simp; done) | (simp; omega)) _ | with_reducible refine b_step ?_ (by with_reducible assumption))), (by repeat' (first | with_reducible assumption | with_reducible exact Blk.new _ _ _ | with_reducible exact Blk.new' _ _ (by first | (simp only [World.size_alloc, World.size_setCell, World.size_drew]; done) | (simp only [World.size_alloc, World.size_setCell, World.size_drew]; omega) | omega) | with_reducible refine Blk.a ?_ _ | with_reducible refine Blk.d ?_ | with_reducible refine Blk.dN ?_ _ | with_reducible refine Blk.s ?_ (by simp only [ne_eq]; omega) _ | with_reducible refine Blk.b ?_ (by with_reducible assumption))), (by repeat' (first | with_reducible assumption | with_reducible exact Blk.new _ _ _ | with_reducible exact Blk.new' _ _ (by first | (simp only [World.size_alloc, World.size_setCell, World.size_drew]; done) | (simp only [World.size_alloc, World.size_setCell, World.size_drew]; omega) | omega) | with_reducible refine Blk.a ?_ _ | with_reducible refine Blk.d ?_ | with_reducible refine Blk.dN ?_ _ | with_reducible refine Blk.s ?_ (by simp only [ne_eq]; omega) _ | with_reducible refine Blk.b ?_ (by with_reducible assumption)))⟩ ?_
  rintro W1 ⟨hb, kR, kX⟩
  have hX1 := kX.cells.2.2
  refine (spec_FlyTube_c p A c _ (h.mono hb)).mono ?_
  generalize LL.tubeM p = xs at *
  intro e W2 hM
  obtain ⟨Ab, cb, rfl, hS, hSg, hB⟩ := hM.go boxE
  have hgx : w.heap.size + 1 < w.heap.size + 1 + 1 := by omega
  generalize hgg : w.heap.size + 1 + 1 = gx at *
  have Hgg := Lib.hid hgg
  clear hgg
  have hS2 : ∀ b, Value.ownBlock (.slice Ab xs.length cb) = some b → w.heap.size + 1 < b ∧ b ≠ gx := fun b hb => by have := hSg b hb; omega
  replace hb := b_step hb hB; replace kR := kR.b hB; replace kX := kX.b hB; clear hB
  clear hM hSg
  go_wp2_with fail
  go_loopw [7] (fun i wr => ∃ (k : Nat) (Ao : Option Addr) (co : Nat), k ≤ xs.length ∧ i = .int .i64 k ∧ Below w.heap.size w wr ∧ Blk wr (w.heap.size + 1) #[.string ⟨#[]⟩, .slice none 0 0] 91 ∧ Blk wr gx #[.string s, .slice Ao (LL.tk xs k).length co] 91 ∧ Own boxC 6 48 133 wr (.slice Ao (LL.tk xs k).length co) (LL.tk xs k) ∧ (∀ b, Value.ownBlock (.slice Ao (LL.tk xs k).length co) = some b → w.heap.size + 1 < b ∧ b ≠ gx) ∧ Own boxC 6 48 152 wr (.slice Ab xs.length cb) xs ∧ (∀ b, Value.ownBlock (.slice Ab xs.length cb) = some b → w.heap.size + 1 < b ∧ b ≠ gx)) (fun i _ => xs.length - (intOf i).toNat)
  case atStart => exact ⟨0, none, 0, Nat.zero_le _, rfl, hb, kR, kX, ⟨World.ownsRow_nil _ _ _ _, by simp [LL.tk]⟩, (fun b hb => by simp [Value.ownBlock] at hb), hS, hS2⟩
  case round =>
    clear hb kR kX hS hS2
    obtain ⟨k, Ao, co, hk, rfl, hb, kR, kX, hO, hO2, hS, hS2⟩ := hrel
    by_cases hlt : k < xs.length
    · have hOb := fun b hb => (hO.row.lt b hb).2
      have hSb := fun b hb => (hS.row.lt b hb).2
      have hgb := kX.cells.2.2
      have hRb := kR.cells.2.2
      have hlen : (LL.tk xs k).length ≤ k := LL.tk_len _ _
      have hdis := own_kinds hO hS (by decide)
      obtain ⟨g, rfl⟩ := hS.someA (by omega)
      obtain ⟨c0, c1, c2, c3, c4, c5⟩ := (hS.rd_at' boxE).S6 k hlt
      simp only [Nat.zero_add] at c0 c1 c2 c3 c4 c5
      have hgl := (hS.row.lt _ rfl).2
      have hgx := (hS2 _ rfl)
      dsimp only at hgl hgx
      obtain ⟨ekX, fkX, lkX⟩ := kX.cells
      have E := LL.tk_on hlt
      have Hlen := Lib.hid hlen
      clear hlen
      go_wp2_with (at_builtin; go_loud (refine wp_app (xs := LL.tk xs k) (ys := [LL.nthB xs k]) (bytes := 48) (e := 133) rfl _ _ _ rfl boxE (.agg (boxC LL.b0).toArray) Try.underlying89 (by kernel_rfl) rfl (by decide) (v := .slice Ao (LL.tk xs k).length co) rfl (by repeat' (first | with_reducible assumption | with_reducible refine Own.s ?_ _ (fun k hk => by have := hOb k hk; (try simp only); omega) | with_reducible refine Own.a ?_ _ | with_reducible refine Own.d ?_ | with_reducible refine Own.dN ?_ _ | with_reducible refine Own.b ?_ (by with_reducible assumption))) rfl (Rd.one (x := LL.nthB xs k) (Blk.new' _ _ (by simp)) rfl (by decide)) (by have := Hlen.out; omega) ?_); intro v7 w7 hO7 hg7 hat7; obtain ⟨A7, c7, rfl, -⟩ := hO7.rd boxE; have kX7 : Blk w7 gx #[.string s, .slice Ao (LL.tk xs k).length co] 91 := (by refine Blk.grown ?_ hg7 (fun e9 => (hO2 _ e9).2 rfl); exact (by repeat' (first | with_reducible assumption | with_reducible exact Blk.new _ _ _ | with_reducible exact Blk.new' _ _ (by first | (simp only [World.size_alloc, World.size_setCell, World.size_drew]; done) | (simp only [World.size_alloc, World.size_setCell, World.size_drew]; omega) | omega) | with_reducible refine Blk.a ?_ _ | with_reducible refine Blk.d ?_ | with_reducible refine Blk.dN ?_ _ | with_reducible refine Blk.s ?_ (by simp only [ne_eq]; omega) _ | with_reducible refine Blk.b ?_ (by with_reducible assumption)))); have kR7 : Blk w7 (w.heap.size + 1) #[.string ⟨#[]⟩, .slice none 0 0] 91 := (by refine Blk.grown ?_ hg7 (fun e9 => by have := (hO2 _ e9).1; omega); exact (by repeat' (first | with_reducible assumption | with_reducible exact Blk.new _ _ _ | with_reducible exact Blk.new' _ _ (by first | (simp only [World.size_alloc, World.size_setCell, World.size_drew]; done) | (simp only [World.size_alloc, World.size_setCell, World.size_drew]; omega) | omega) | with_reducible refine Blk.a ?_ _ | with_reducible refine Blk.d ?_ | with_reducible refine Blk.dN ?_ _ | with_reducible refine Blk.s ?_ (by simp only [ne_eq]; omega) _ | with_reducible refine Blk.b ?_ (by with_reducible assumption)))); have hb7 : Below w.heap.size w w7 := (by refine b_grown' ?_ hg7 ?_ (fun g' hg' => by have := (hO2 _ hg').1; omega); exact (by repeat' (first | with_reducible exact Below.refl _ _ | with_reducible assumption | with_reducible refine b_alloc ?_ _ | with_reducible refine b_drewN ?_ _ | with_reducible refine b_drew ?_ | with_reducible refine b_set ?_ (by first | (simp only [World.size_setCell, World.size_alloc, World.size_drew]; omega) | (simp; done) | (simp; omega)) _ | with_reducible refine b_step ?_ (by with_reducible assumption))); (simp only [World.size_setCell, World.size_alloc]; have := hb.size; omega)); have hS7 : Own boxC 6 48 152 w7 (.slice (some ⟨g, 0, none⟩) xs.length cb) xs := (by refine Own.gS ?_ (GrownS.of hg7) (fun j h1 h2 => hdis j h2 h1); exact (by repeat' (first | with_reducible assumption | with_reducible refine Own.s ?_ _ (fun k hk => by have := hSb k hk; (try simp only); omega) | with_reducible refine Own.a ?_ _ | with_reducible refine Own.d ?_ | with_reducible refine Own.dN ?_ _ | with_reducible refine Own.b ?_ (by with_reducible assumption)))); have hz7 := hg7.size; (simp only [World.size_setCell, World.size_alloc] at hz7 hat7); obtain ⟨eX7, fX7, lX7⟩ := kX7.cells)
      go_roundw
      case rel =>
        refine ⟨k + 1, A7, c7, by omega, by go_num, b_set hb7 (by simp only; omega) _, kR7.s (by simp only [ne_eq]; omega) _, by rw [E]; simpa using kX7.put 1 (.slice A7 (LL.tk xs k ++ [LL.nthB xs k]).length c7), ?_, fun j hj => ?_, hS7.s _ (fun j hj => (hS2 j hj).2), hS2⟩
        · rw [E]
          refine Own.s (v := .slice A7 (LL.tk xs k ++ [LL.nthB xs k]).length c7) hO7 _ (fun j hj => ?_)
          rcases hat7 with h9 | h9
          · rw [h9] at hj; exact (hO2 _ hj).2
          · rw [h9] at hj; cases hj; simp only; omega
        · rw [E] at hj
          rcases hat7 with h9 | h9
          · rw [h9] at hj; exact hO2 _ hj
          · rw [h9] at hj; cases hj; omega
      case measure => simp [intOf]; omega
    · obtain rfl : k = xs.length := by omega
      rw [LL.tk_all] at kX hO hO2
      obtain ⟨ekX, fkX, lkX⟩ := kX.cells; obtain ⟨ekR, fkR, lkR⟩ := kR.cells
      go_wp2_with fail
      (refine bodyPost_ret (res_c rfl _ [.string s, .slice Ao xs.length co] rfl _ Try.underlying91 rfl (by kernel_rfl) (by simp only [CellsAt, and_true]; and_intros <;> go_simp)) rfl ?_)
      exact ⟨Ao, co, rfl, (hO.s _ (fun k hk => by have := hO2 k hk; simp only; omega)).s _ (fun k hk => by have := hO2 k hk; simp only; omega), fun k hk => by have := hO2 k hk; omega, (by repeat' (first | with_reducible exact Below.refl _ _ | with_reducible assumption | with_reducible refine b_alloc ?_ _ | with_reducible refine b_drewN ?_ _ | with_reducible refine b_drew ?_ | with_reducible refine b_set ?_ (by first | (simp only [World.size_setCell, World.size_alloc, World.size_drew]; omega) | (simp; done) | (simp; omega)) _ | with_reducible refine b_step ?_ (by with_reducible assumption)))⟩
set_option maxRecDepth 100000 in
set_option maxHeartbeats 4000000 in
theorem spec_LinkTube_c (s : ByteArray) (p : LL.Path) (A : Option Addr) (c : Nat) (t : Int) (hs : s.size ≤ 9223372036854775807) (w : World) (h : RdS w A p.steps.length c p.steps) : Calls Try.prog 120 #[.string s, .agg #[.int .i64 p.q, .int .i64 p.s, .slice A p.steps.length c, .int .i64 p.fr, .int .i64 p.by_], .int .i64 t] w (MkT 133 w (LL.cutN s (LL.tubeM p)) (LL.cutL s (LL.tubeM p) t)) := by
  go_enter Try.func120, Try.ntmps120
  go_wp2_with fail
  refine calls_name (fun W => Below w.heap.size w W ∧ Blk W (w.heap.size + 1) #[.string ⟨#[]⟩, .slice none 0 0] 91) ⟨(by repeat' (first | with_reducible exact Below.refl _ _ | with_reducible assumption | with_reducible refine b_alloc ?_ _ | with_reducible refine b_drewN ?_ _ | with_reducible refine b_drew ?_ | with_reducible refine b_set ?_ (by first | (simp only [World.size_setCell, World.size_alloc, World.size_drew]; omega) | (simp; done) | (simp; omega)) _ | with_reducible refine b_step ?_ (by with_reducible assumption))), (by repeat' (first | with_reducible assumption | with_reducible exact Blk.new _ _ _ | with_reducible exact Blk.new' _ _ (by first | (simp only [World.size_alloc, World.size_setCell, World.size_drew]; done) | (simp only [World.size_alloc, World.size_setCell, World.size_drew]; omega) | omega) | with_reducible refine Blk.a ?_ _ | with_reducible refine Blk.d ?_ | with_reducible refine Blk.dN ?_ _ | with_reducible refine Blk.s ?_ (by simp only [ne_eq]; omega) _ | with_reducible refine Blk.b ?_ (by with_reducible assumption)))⟩ ?_
  rintro W1 ⟨hb, kR⟩
  refine (spec_l23Tube_c s p A c _ (h.mono hb)).mono ?_
  generalize LL.tubeM p = xs at *
  rintro e W2 ⟨Ab, cb, rfl, hS, hSg, hB⟩
  replace hb := b_step hb hB; replace kR := kR.b hB; clear hB
  clear hSg
  go_wp2_with fail
  refine calls_name (fun W => Below w.heap.size w W ∧ Blk W (w.heap.size + 1) #[.string ⟨#[]⟩, .slice none 0 0] 91 ∧ RdB W Ab xs.length cb xs) ⟨(by repeat' (first | with_reducible exact Below.refl _ _ | with_reducible assumption | with_reducible refine b_alloc ?_ _ | with_reducible refine b_drewN ?_ _ | with_reducible refine b_drew ?_ | with_reducible refine b_set ?_ (by first | (simp only [World.size_setCell, World.size_alloc, World.size_drew]; omega) | (simp; done) | (simp; omega)) _ | with_reducible refine b_step ?_ (by with_reducible assumption))), (by repeat' (first | with_reducible assumption | with_reducible exact Blk.new _ _ _ | with_reducible exact Blk.new' _ _ (by first | (simp only [World.size_alloc, World.size_setCell, World.size_drew]; done) | (simp only [World.size_alloc, World.size_setCell, World.size_drew]; omega) | omega) | with_reducible refine Blk.a ?_ _ | with_reducible refine Blk.d ?_ | with_reducible refine Blk.dN ?_ _ | with_reducible refine Blk.s ?_ (by simp only [ne_eq]; omega) _ | with_reducible refine Blk.b ?_ (by with_reducible assumption))), hS.rd_at' boxE⟩ ?_
  clear hb kR
  rintro W3 ⟨hb, kR, hR⟩
  have hR3 := kR.cells.2.2
  refine (spec_ProbeCut_c s xs Ab cb t hs _ hR).mono ?_
  rintro e W4 ⟨A1, c1, rfl, hO1, hOg, hB⟩
  have hO3 : ∀ k, Value.ownBlock (.slice A1 (LL.cutL s xs t).length c1) = some k → w.heap.size + 1 < k := fun k hk => by have := hOg k hk; omega
  replace hb := b_step hb hB; replace kR := kR.b hB; clear hB
  obtain ⟨ekR, fkR, lkR⟩ := kR.cells
  go_wp2_with fail
  (refine bodyPost_ret (res_c rfl _ [.string (LL.cutN s xs), .slice A1 (LL.cutL s xs t).length c1] rfl _ Try.underlying91 rfl (by kernel_rfl) (by simp only [CellsAt, and_true]; and_intros <;> go_simp)) rfl ?_)
  exact ⟨A1, c1, rfl, (by repeat' (first | with_reducible assumption | with_reducible refine Own.s ?_ _ (fun k hk => by have := hO3 k hk; (try simp only); omega) | with_reducible refine Own.a ?_ _ | with_reducible refine Own.d ?_ | with_reducible refine Own.dN ?_ _ | with_reducible refine Own.b ?_ (by with_reducible assumption))), fun k hk => by have := hO3 k hk; omega, (by repeat' (first | with_reducible exact Below.refl _ _ | with_reducible assumption | with_reducible refine b_alloc ?_ _ | with_reducible refine b_drewN ?_ _ | with_reducible refine b_drew ?_ | with_reducible refine b_set ?_ (by first | (simp only [World.size_setCell, World.size_alloc, World.size_drew]; omega) | (simp; done) | (simp; omega)) _ | with_reducible refine b_step ?_ (by with_reducible assumption)))⟩
end Go.Proofs.Ytkpnjnkfbhomgaa

/- An aircraft that goes on: LinkMove of the program and of the reference. -/
set_option linter.unusedVariables false
set_option linter.unusedSimpArgs false
namespace Go.Proofs.Ytkpnjnkfbhomgaa
open Go.RowKit
attribute [local go_sem] w_lt_add w_le_of w_le_add max2_i min2_i
def LL.movedC (x : LL.Craft) (t : Int) : LL.Craft := ⟨x.name, x.number, x.no, x.path, LL.movedF x t⟩
theorem LL.movedC_no {x : LL.Craft} {t : Int} (h : ¬ LL.CanMove x t) : LL.movedC x t = x := by unfold LL.movedC LL.movedF; rw [if_neg h]
theorem LL.movedC_yes {x : LL.Craft} {t : Int} (h : LL.CanMove x t) : LL.movedC x t = ⟨x.name, x.number, x.no, x.path, x.flown ++ [t]⟩ := by unfold LL.movedC LL.movedF; rw [if_pos h]
/-- a call has made an aircraft and a truth -/
def MkCrB (w : World) (x : LL.Craft) (b : Bool) (en : Ending) (w' : World) : Prop := ∃ A c F m, en = .returned (.tuple #[.agg #[.string x.name, .int .i64 x.number, .int .i64 x.no, .int .i64 x.path.q, .int .i64 x.path.s, .slice A x.path.steps.length c, .int .i64 x.path.fr, .int .i64 x.path.by_, .slice F x.flown.length m], .bool b]) ∧ OwnCr w' x A c F m ∧ (∀ k, FpC x A c F m k → w.heap.size ≤ k) ∧ Below w.heap.size w w'
set_option maxRecDepth 100000 in
set_option maxHeartbeats 1000000 in
theorem impl_copyCraft_c (x : LL.Craft) (A F : Option Addr) (c m : Nat) (w : World) (h : RdS w A x.path.steps.length c x.path.steps) (hF : RdI w F x.flown.length m x.flown) : Calls Try.prog 93 #[.agg #[.string x.name, .int .i64 x.number, .int .i64 x.no, .int .i64 x.path.q, .int .i64 x.path.s, .slice A x.path.steps.length c, .int .i64 x.path.fr, .int .i64 x.path.by_, .slice F x.flown.length m]] w (MkCr w x) := by
  have hroom := h.room
  have hroom' := hF.room
  go_enter Try.func93, Try.ntmps93
  go_wp2_with fail
  refine calls_name (fun W => Below w.heap.size w W ∧ Blk W w.heap.size #[.string x.name, .int .i64 x.number, .int .i64 x.no, .int .i64 x.path.q, .int .i64 x.path.s, .slice A x.path.steps.length c, .int .i64 x.path.fr, .int .i64 x.path.by_, .slice F x.flown.length m] 74 ∧ Blk W (w.heap.size + 1) #[.string ⟨#[]⟩, .int .i64 0, .int .i64 0, .int .i64 0, .int .i64 0, .slice none 0 0, .int .i64 0, .int .i64 0, .slice none 0 0] 74) ⟨(by repeat' (first | with_reducible exact Below.refl _ _ | with_reducible assumption | with_reducible refine b_alloc ?_ _ | with_reducible refine b_drewN ?_ _ | with_reducible refine b_drew ?_ | with_reducible refine b_set ?_ (by first | (simp only [World.size_setCell, World.size_alloc, World.size_drew]; omega) | (simp; done) | (simp; omega)) _ | with_reducible refine b_step ?_ (by with_reducible assumption))), (by repeat' (first | with_reducible assumption | with_reducible exact Blk.new _ _ _ | with_reducible exact Blk.new' _ _ (by first | (simp only [World.size_alloc, World.size_setCell, World.size_drew]; done) | (simp only [World.size_alloc, World.size_setCell, World.size_drew]; omega) | omega) | with_reducible refine Blk.a ?_ _ | with_reducible refine Blk.d ?_ | with_reducible refine Blk.dN ?_ _ | with_reducible refine Blk.s ?_ (by simp only [ne_eq]; omega) _ | with_reducible refine Blk.b ?_ (by with_reducible assumption))), (by repeat' (first | with_reducible assumption | with_reducible exact Blk.new _ _ _ | with_reducible exact Blk.new' _ _ (by first | (simp only [World.size_alloc, World.size_setCell, World.size_drew]; done) | (simp only [World.size_alloc, World.size_setCell, World.size_drew]; omega) | omega) | with_reducible refine Blk.a ?_ _ | with_reducible refine Blk.d ?_ | with_reducible refine Blk.dN ?_ _ | with_reducible refine Blk.s ?_ (by simp only [ne_eq]; omega) _ | with_reducible refine Blk.b ?_ (by with_reducible assumption)))⟩ ?_
  rintro W1 ⟨hb, kP, kR⟩
  have hX1 := kR.cells.2.2
  refine (impl_copyPath_c x.path A c _ (h.mono hb)).mono ?_
  intro e W2 hM
  obtain ⟨A1, c1, rfl, hO, hOg, hB⟩ := hM.gop
  have hO2 : ∀ k, Value.ownBlock (.slice A1 x.path.steps.length c1) = some k → w.heap.size + 1 < k := fun k hk => by have := hOg k hk; omega
  have hO3 := fun k hk => (hO.row.lt k hk).2
  replace hb := b_step hb hB; replace kP := kP.b hB; replace kR := kR.b hB; clear hB
  clear hM hOg
  have hR2 := kR.cells.2.2
  obtain ⟨ekP, fkP, lkP⟩ := kP.cells
  go_wp2_with (at_builtin; go_loud (refine wpl_name (fun W => Below w.heap.size w W ∧ Blk W w.heap.size #[.string x.name, .int .i64 x.number, .int .i64 x.no, .int .i64 x.path.q, .int .i64 x.path.s, .slice A1 x.path.steps.length c1, .int .i64 x.path.fr, .int .i64 x.path.by_, .slice F x.flown.length m] 74 ∧ Blk W (w.heap.size + 1) #[.string ⟨#[]⟩, .int .i64 0, .int .i64 0, .int .i64 0, .int .i64 0, .slice none 0 0, .int .i64 0, .int .i64 0, .slice none 0 0] 74 ∧ OwnP W A1 c1 x.path ∧ Own intC 1 8 3 W (.slice (some ⟨W2.heap.size, 0, none⟩) 0 0) [] ∧ W2.heap.size < W.heap.size) ⟨(by repeat' (first | with_reducible exact Below.refl _ _ | with_reducible assumption | with_reducible refine b_alloc ?_ _ | with_reducible refine b_drewN ?_ _ | with_reducible refine b_drew ?_ | with_reducible refine b_set ?_ (by first | (simp only [World.size_setCell, World.size_alloc, World.size_drew]; omega) | (simp; done) | (simp; omega)) _ | with_reducible refine b_step ?_ (by with_reducible assumption))), by refine Blk.a ?_ _; simpa using (((((kP.put 3 (.int .i64 x.path.q)).put 4 (.int .i64 x.path.s)).put 5 (.slice A1 x.path.steps.length c1)).put 6 (.int .i64 x.path.fr)).put 7 (.int .i64 x.path.by_)), (by repeat' (first | with_reducible assumption | with_reducible exact Blk.new _ _ _ | with_reducible exact Blk.new' _ _ (by first | (simp only [World.size_alloc, World.size_setCell, World.size_drew]; done) | (simp only [World.size_alloc, World.size_setCell, World.size_drew]; omega) | omega) | with_reducible refine Blk.a ?_ _ | with_reducible refine Blk.d ?_ | with_reducible refine Blk.dN ?_ _ | with_reducible refine Blk.s ?_ (by simp only [ne_eq]; omega) _ | with_reducible refine Blk.b ?_ (by with_reducible assumption))), (by repeat' (first | with_reducible assumption | with_reducible refine Own.s ?_ _ (fun k hk => by have := hO2 k hk; (try simp only); omega) | with_reducible refine Own.a ?_ _ | with_reducible refine Own.d ?_ | with_reducible refine Own.dN ?_ _ | with_reducible refine Own.b ?_ (by with_reducible assumption))), Own.made' (by simp only [World.size_setCell]), by simp only [World.size_setCell, World.size_alloc]; omega⟩ ?_; rintro W3 ⟨hb3, kP3, kR3, hO4, hN3, hz3⟩; refine wp_appA (bytes := 8) (e := 3) rfl _ _ _ rfl intE (.int .i64 0) Try.underlying69 (by kernel_rfl) rfl (by decide) (v := .slice (some ⟨W2.heap.size, 0, none⟩) 0 0) (xs := []) rfl hN3 rfl (hF.mono hb3) (by simpa using hroom') ?_; intro v7 w7 hO7 hg7 hat7; rw [List.nil_append] at hO7; obtain ⟨A0, c0, rfl, -⟩ := hO7.rd intE; have hz7 := hg7.size; have hb7 := b_grown' hb3 hg7 (by omega) (fun g' hg' => by simp [Value.ownBlock] at hg'; omega); have kP7 := kP3.grown hg7 (by simp [Value.ownBlock]; omega); have kR7 := kR3.grown hg7 (by simp [Value.ownBlock]; omega); have hP7 := hO4.gS (GrownS.of hg7) (fun j h1 h2 => by simp [Value.ownBlock] at h2; have := hO3 j h1; omega); obtain ⟨eP7, fP7, lP7⟩ := kP7.cells; obtain ⟨eR7, fR7, lR7⟩ := kR7.cells))
  (refine bodyPost_ret (res_c rfl _ [.string x.name, .int .i64 x.number, .int .i64 x.no, .int .i64 x.path.q, .int .i64 x.path.s, .slice A1 x.path.steps.length c1, .int .i64 x.path.fr, .int .i64 x.path.by_, .slice A0 x.flown.length c0] rfl _ Try.underlying74 rfl (by kernel_rfl) (by simp only [CellsAt, and_true]; and_intros <;> go_simp)) rfl ?_)
  have hI2 : ∀ k, Value.ownBlock (.slice A0 x.flown.length c0) = some k → w.heap.size + 1 < k := fun k hk => by rcases hat7 with h9 | h9 <;> (rw [h9] at hk; simp [Value.ownBlock] at hk; omega)
  exact ⟨A1, c1, A0, c0, rfl, ⟨(by repeat' (first | with_reducible assumption | with_reducible refine Own.s ?_ _ (fun k hk => by have := hO2 k hk; (try simp only); omega) | with_reducible refine Own.a ?_ _ | with_reducible refine Own.d ?_ | with_reducible refine Own.dN ?_ _ | with_reducible refine Own.b ?_ (by with_reducible assumption))), (by repeat' (first | with_reducible assumption | with_reducible refine Own.s ?_ _ (fun k hk => by have := hI2 k hk; (try simp only); omega) | with_reducible refine Own.a ?_ _ | with_reducible refine Own.d ?_ | with_reducible refine Own.dN ?_ _ | with_reducible refine Own.b ?_ (by with_reducible assumption)))⟩, fun k hk => hk.elim (fun hk => by have := hO2 k hk; omega) (fun hk => by have := hI2 k hk; omega), (by repeat' (first | with_reducible exact Below.refl _ _ | with_reducible assumption | with_reducible refine b_alloc ?_ _ | with_reducible refine b_drewN ?_ _ | with_reducible refine b_drew ?_ | with_reducible refine b_set ?_ (by first | (simp only [World.size_setCell, World.size_alloc, World.size_drew]; omega) | (simp; done) | (simp; omega)) _ | with_reducible refine b_step ?_ (by with_reducible assumption)))⟩
set_option maxRecDepth 100000 in
set_option maxHeartbeats 1000000 in
theorem spec_l22Craft_c (x : LL.Craft) (A F : Option Addr) (c m : Nat) (w : World) (h : RdS w A x.path.steps.length c x.path.steps) (hF : RdI w F x.flown.length m x.flown) : Calls Try.prog 88 #[.agg #[.string x.name, .int .i64 x.number, .int .i64 x.no, .int .i64 x.path.q, .int .i64 x.path.s, .slice A x.path.steps.length c, .int .i64 x.path.fr, .int .i64 x.path.by_, .slice F x.flown.length m]] w (MkCr w x) := by
  have hroom := h.room
  have hroom' := hF.room
  go_enter Try.func88, Try.ntmps88
  go_wp2_with fail
  refine wp_name (fun W => Below w.heap.size w W ∧ Blk W w.heap.size #[.string x.name, .int .i64 x.number, .int .i64 x.no, .int .i64 x.path.q, .int .i64 x.path.s, .slice A x.path.steps.length c, .int .i64 x.path.fr, .int .i64 x.path.by_, .slice F x.flown.length m] 74 ∧ Blk W (w.heap.size + 1) #[.string ⟨#[]⟩, .int .i64 0, .int .i64 0, .int .i64 0, .int .i64 0, .slice none 0 0, .int .i64 0, .int .i64 0, .slice none 0 0] 74) ⟨(by repeat' (first | with_reducible exact Below.refl _ _ | with_reducible assumption | with_reducible refine b_alloc ?_ _ | with_reducible refine b_drewN ?_ _ | with_reducible refine b_drew ?_ | with_reducible refine b_set ?_ (by first | (simp only [World.size_setCell, World.size_alloc, World.size_drew]; omega) | (simp; done) | (simp; omega)) _ | with_reducible refine b_step ?_ (by with_reducible assumption))), (by repeat' (first | with_reducible assumption | with_reducible exact Blk.new _ _ _ | with_reducible exact Blk.new' _ _ (by first | (simp only [World.size_alloc, World.size_setCell, World.size_drew]; done) | (simp only [World.size_alloc, World.size_setCell, World.size_drew]; omega) | omega) | with_reducible refine Blk.a ?_ _ | with_reducible refine Blk.d ?_ | with_reducible refine Blk.dN ?_ _ | with_reducible refine Blk.s ?_ (by simp only [ne_eq]; omega) _ | with_reducible refine Blk.b ?_ (by with_reducible assumption))), (by repeat' (first | with_reducible assumption | with_reducible exact Blk.new _ _ _ | with_reducible exact Blk.new' _ _ (by first | (simp only [World.size_alloc, World.size_setCell, World.size_drew]; done) | (simp only [World.size_alloc, World.size_setCell, World.size_drew]; omega) | omega) | with_reducible refine Blk.a ?_ _ | with_reducible refine Blk.d ?_ | with_reducible refine Blk.dN ?_ _ | with_reducible refine Blk.s ?_ (by simp only [ne_eq]; omega) _ | with_reducible refine Blk.b ?_ (by with_reducible assumption)))⟩ ?_
  rintro W1 ⟨hb, kP, kR⟩
  have hR1 := kR.cells.2.2
  obtain ⟨ekP, fkP, lkP⟩ := kP.cells
  refine rel_tail_b 14 [(8, fun v W => ∃ A9 c9, v = .agg #[.int .i64 x.path.q, .int .i64 x.path.s, .slice A9 x.path.steps.length c9, .int .i64 x.path.fr, .int .i64 x.path.by_] ∧ OwnP W A9 c9 x.path ∧ (∀ j, Value.ownBlock (.slice A9 x.path.steps.length c9) = some j → W1.heap.size ≤ j)), (9, fun v W => ∃ g, v = .slice (some ⟨g, 0, none⟩) 0 0 ∧ Own intC 1 8 3 W (.slice (some ⟨g, 0, none⟩) 0 0) [] ∧ W1.heap.size ≤ g), (12, fun v W => ∃ A9 c9, v = .slice A9 x.flown.length c9 ∧ Own intC 1 8 3 W (.slice A9 x.flown.length c9) x.flown ∧ (∀ j, Value.ownBlock (.slice A9 x.flown.length c9) = some j → W1.heap.size ≤ j))] (by kernel_rfl) (by kernel_rfl) ?_
  simp only [List.take_succ_cons, List.take_zero, List.drop_succ_cons, List.drop_zero]
  iterate 8 ((apply rel_plain (hR := rfl) (hF := fun _ => trivial) (hg := rfl)); (focus ((intro w' hL'); (obtain ⟨hcS, hfS, hlS⟩ := bcell hL'); (try simp only [World.size_setCell, World.size_alloc, World.size_drew] at hcS hfS hlS); (go_simp); (try go_bits); (try (first | (rw [if_pos (by omega)]; done) | (rw [if_neg (by omega)]; done) | (rw [if_pos (by omega)]; go_simp) | (rw [if_neg (by omega)]; go_simp))); (first | with_reducible rfl | exact rfl | skip))); (simp only [Act.put, List.setIfInBounds_toArray, List.set_cons_zero, List.set_cons_succ]))
  ((apply rel_told (hR := rfl) (hg := rfl)); (focus ((intro w' hL' hD'); (obtain ⟨hcS, hfS, hlS⟩ := bcell hL'); (try simp only [World.size_setCell, World.size_alloc, World.size_drew] at hcS hfS hlS); (go_simp); (try go_bits); (try (first | (rw [if_pos (by omega)]; done) | (rw [if_neg (by omega)]; done) | (rw [if_pos (by omega)]; go_simp) | (rw [if_neg (by omega)]; go_simp))); ((go_at_call 68); (refine (spec_l2Copy_c x.path A c _ (h.mono (b_step hb hL'))).mono ?_); (intro e w'' hM); (obtain ⟨A2, c2, rfl, hO2, hOg2, hB⟩ := hM.gop); (refine ⟨_, rfl, hB, ?_⟩); ((repeat (first | (refine Tell.hit rfl ?_) | (refine Tell.skip rfl ?_))); exact ⟨A2, c2, rfl, hO2, fun j hj => by have := hL'.size; have := hOg2 j hj; omega⟩)))); (intro v' w0' hv'); (replace hv' := Tell.out hv' rfl); (obtain ⟨A2, c2, rfl, -⟩ := hv'); (simp only [Act.put, List.setIfInBounds_toArray, List.set_cons_zero, List.set_cons_succ]))
  ((apply rel_told (hR := rfl) (hg := rfl)); (focus ((intro w' hL' hD'); (obtain ⟨hcS, hfS, hlS⟩ := bcell hL'); (try simp only [World.size_setCell, World.size_alloc, World.size_drew] at hcS hfS hlS); (go_simp); (try go_bits); (try (first | (rw [if_pos (by omega)]; done) | (rw [if_neg (by omega)]; done) | (rw [if_pos (by omega)]; go_simp) | (rw [if_neg (by omega)]; go_simp))); (refine ⟨b_alloc (Below.refl _ _) _, ?_⟩; ((repeat (first | (refine Tell.hit rfl ?_) | (refine Tell.skip rfl ?_))); exact ⟨_, rfl, Own.made' rfl, hL'.size⟩)))); (intro v' w0' hv'); (replace hv' := Tell.out hv' rfl); (obtain ⟨g, rfl, hgo, hg⟩ := hv'); (simp only [Act.put, List.setIfInBounds_toArray, List.set_cons_zero, List.set_cons_succ]))
  iterate 2 ((apply rel_plain (hR := rfl) (hF := fun _ => trivial) (hg := rfl)); (focus ((intro w' hL'); (obtain ⟨hcS, hfS, hlS⟩ := bcell hL'); (try simp only [World.size_setCell, World.size_alloc, World.size_drew] at hcS hfS hlS); (go_simp); (try go_bits); (try (first | (rw [if_pos (by omega)]; done) | (rw [if_neg (by omega)]; done) | (rw [if_pos (by omega)]; go_simp) | (rw [if_neg (by omega)]; go_simp))); (first | with_reducible rfl | exact rfl | skip))); (simp only [Act.put, List.setIfInBounds_toArray, List.set_cons_zero, List.set_cons_succ]))
  ((apply rel_told (hR := rfl) (hg := rfl)); (focus ((intro w' hL' hD'); ((obtain ⟨w8, hl8, g8, e8, hO8, hg8⟩ := Known.out (hD' ⟨9, .data⟩ (by simp) rfl) rfl); (injection e8 with e8; injection e8 with e8; injection e8 with e8; subst e8); (replace hO8 := hO8.b hl8); (refine ran_app (bytes := 8) (e := 3) _ _ _ rfl intE (.int .i64 0) Try.underlying69 (by kernel_rfl) rfl (by decide) rfl hO8 rfl (hF.mono (b_step hb hL')) ?_); (intro v' w'' hO' hB' hat); (obtain ⟨A', c', rfl, -⟩ := hO'.rd intE); ((repeat (first | (refine Tell.hit rfl ?_) | (refine Tell.skip rfl ?_))); exact ⟨A', c', rfl, hO', fun j hj => by have := hL'.size; rcases hat with h9 | h9 <;> (rw [h9] at hj; cases hj; omega)⟩)))); (intro v' w0' hv'); (replace hv' := Tell.out hv' rfl); (obtain ⟨A3, c3, rfl, -⟩ := hv'); (simp only [Act.put, List.setIfInBounds_toArray, List.set_cons_zero, List.set_cons_succ]))
  ((apply rel_plain (hR := rfl) (hF := fun _ => trivial) (hg := rfl)); (focus ((intro w' hL'); (obtain ⟨hcS, hfS, hlS⟩ := bcell hL'); (try simp only [World.size_setCell, World.size_alloc, World.size_drew] at hcS hfS hlS); (go_simp); (try go_bits); (try (first | (rw [if_pos (by omega)]; done) | (rw [if_neg (by omega)]; done) | (rw [if_pos (by omega)]; go_simp) | (rw [if_neg (by omega)]; go_simp))); (first | with_reducible rfl | exact rfl | skip))); (simp only [Act.put, List.setIfInBounds_toArray, List.set_cons_zero, List.set_cons_succ]))
  refine rel_nil ?_
  intro W2 hL2 hF2
  obtain ⟨w8, hl8, A8, c8, e8, hO8, hg8⟩ := Known.out (hF2 8) rfl
  obtain ⟨w9, hl9, A9, c9, e9, hO9, hg9⟩ := Known.out (hF2 12) rfl
  simp at e8 e9
  obtain ⟨rfl, rfl⟩ := e8
  obtain ⟨rfl, rfl⟩ := e9
  clear ekP fkP lkP
  replace hb := b_step hb hL2; replace kP := kP.b hL2; replace kR := kR.b hL2
  have hP := hO8.b hl8
  have hI := hO9.b hl9
  clear hF2 hl8 hO8 hL2 hl9 hO9
  have hP2 : ∀ j, Value.ownBlock (.slice A2 x.path.steps.length c2) = some j → w.heap.size + 1 < j := fun j hj => by have := hg8 j hj; omega
  have hI2 : ∀ j, Value.ownBlock (.slice A3 x.flown.length c3) = some j → w.heap.size + 1 < j := fun j hj => by have := hg9 j hj; omega
  obtain ⟨ekR, fkR, lkR⟩ := kR.cells
  go_wp2_with fail
  (refine bodyPost_ret (res_c rfl _ [.string x.name, .int .i64 x.number, .int .i64 x.no, .int .i64 x.path.q, .int .i64 x.path.s, .slice A2 x.path.steps.length c2, .int .i64 x.path.fr, .int .i64 x.path.by_, .slice A3 x.flown.length c3] rfl _ Try.underlying74 rfl (by kernel_rfl) (by simp only [CellsAt, and_true]; and_intros <;> go_simp)) rfl ?_)
  exact ⟨A2, c2, A3, c3, rfl, ⟨(by repeat' (first | with_reducible assumption | with_reducible refine Own.s ?_ _ (fun k hk => by have := hP2 k hk; (try simp only); omega) | with_reducible refine Own.a ?_ _ | with_reducible refine Own.d ?_ | with_reducible refine Own.dN ?_ _ | with_reducible refine Own.b ?_ (by with_reducible assumption))), (by repeat' (first | with_reducible assumption | with_reducible refine Own.s ?_ _ (fun k hk => by have := hI2 k hk; (try simp only); omega) | with_reducible refine Own.a ?_ _ | with_reducible refine Own.d ?_ | with_reducible refine Own.dN ?_ _ | with_reducible refine Own.b ?_ (by with_reducible assumption)))⟩, fun k hk => hk.elim (fun hk => by have := hP2 k hk; omega) (fun hk => by have := hI2 k hk; omega), (by repeat' (first | with_reducible exact Below.refl _ _ | with_reducible assumption | with_reducible refine b_alloc ?_ _ | with_reducible refine b_drewN ?_ _ | with_reducible refine b_drew ?_ | with_reducible refine b_set ?_ (by first | (simp only [World.size_setCell, World.size_alloc, World.size_drew]; omega) | (simp; done) | (simp; omega)) _ | with_reducible refine b_step ?_ (by with_reducible assumption)))⟩
end Go.Proofs.Ytkpnjnkfbhomgaa
