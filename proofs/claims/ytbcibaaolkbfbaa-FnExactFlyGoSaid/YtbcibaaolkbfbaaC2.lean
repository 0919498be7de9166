/- A path with all ticks later by so many. -/
import Derived.Test.YtbcibaaolkbfbaaC1
import Derived.Test.YtbcibaaolkbfbaaX5
set_option linter.unusedVariables false
set_option linter.unusedSimpArgs false
namespace Go.Proofs.Ytbcibaaolkbfbaa
open Go.RowKit
attribute [local go_sem] w_lt_add w_le_of w_le_add max2_i min2_i
namespace LL
def shS (d : Int) (s : Step) : Step := ⟨s.x, s.y, s.lo, s.hi, s.fr + d, s.by_ + d, s.hold⟩
/-- the step that lies at place i of the path that is told later -/
def shF (p : Path) (d : Int) (i : Nat) : Step := shS d (nth p.steps i)
def shP (p : Path) (d : Int) : Path := ⟨p.q, p.s, tab p.steps.length (shF p d), p.fr + d, p.by_ + d⟩
def ShOk (p : Path) (d : Int) : Prop := PathOk p ∧ In d (-10000) 10000 ∧ PathOk (shP p d)
instance (p : Path) (d : Int) : Decidable (ShOk p d) := inferInstanceAs (Decidable (_ ∧ _))
def p0 : Path := ⟨0, 0, [], 0, 0⟩
def shiftM (p : Path) (d : Int) : Path := if ShOk p d then shP p d else p0
theorem shiftM_no {p : Path} {d : Int} (h : ¬ ShOk p d) : shiftM p d = p0 := if_neg h
theorem shiftM_yes {p : Path} {d : Int} (h : ShOk p d) : shiftM p d = shP p d := if_pos h
theorem mix_here {α : Type} (f : Nat → α) (xs : List α) (d : α) (k : Nat) : mix f xs d k k = xs.getD k d := if_neg (Nat.lt_irrefl _)
theorem mix_next {α : Type} (f : Nat → α) (xs : List α) (d : α) (k : Nat) : upd (mix f xs d k) k (f k) = mix f xs d (k + 1) := by
  funext i; unfold upd mix
  by_cases h : i = k
  · subst h; simp
  · rw [if_neg h]
    by_cases h1 : i < k
    · rw [if_pos h1, if_pos (by omega)]
    · rw [if_neg h1, if_neg (by omega)]
end LL
/-- a call has made a path and said whether it is one -/
def MkPB (e : Nat) (w : World) (p : LL.Path) (b : Bool) (en : Ending) (w' : World) : Prop := ∃ v, en = .returned (.tuple #[.agg #[.int .i64 p.q, .int .i64 p.s, v, .int .i64 p.fr, .int .i64 p.by_], .bool b]) ∧ Own stepC 7 56 e w' v p.steps ∧ (∀ k, v.ownBlock = some k → w.heap.size ≤ k) ∧ Below w.heap.size w w'
section
variable {w : World} {e g n c : Nat} {f f' : Nat → LL.Step}
theorem Own.St (h : Own stepC 7 56 e w (.slice (some ⟨g, 0, none⟩) n c) (LL.tab n f)) (k : Nat) (hk : k < n) :
    w.cell? ⟨g, k * 7 + 4, none⟩ = some (.int .i64 (f k).fr) ∧ w.cell? ⟨g, k * 7 + 5, none⟩ = some (.int .i64 (f k).by_) ∧ (∀ j, w.frozen? ⟨g, j, none⟩ = false) ∧ g < w.heap.size := by
  have h2 := (h.rd_at stepE (LL.tab_len _ _)).S7 k hk
  have e1 : LL.nth (LL.tab n f) k = f k := LL.tab_getD hk
  rw [e1, Nat.zero_add] at h2
  obtain ⟨g', cap, e2, _, _, hf⟩ := h.form (by rw [LL.tab_len]; omega)
  have e3 : g = g' := by injection e2 with e2; injection e2 with e2; injection e2
  subst e3
  exact ⟨h2.2.2.2.2.1, h2.2.2.2.2.2.1, fun j => hf _, (h.row.lt _ rfl).2⟩
theorem Own.setSt {xs : List LL.Step} (h : Own stepC 7 56 e w (.slice (some ⟨g, 0, none⟩) n c) xs) (hn : xs.length = n) (k : Nat) (hk : k < n) (j : Nat) {x : Value} {s : LL.Step} (hj : j < 7) (hs : stepC s = (stepC (xs.getD k LL.z0)).set j x) :
    Own stepC 7 56 e (w.setCell ⟨g, k * 7 + j, none⟩ x) (.slice (some ⟨g, 0, none⟩) n c) (xs.set k s) := by
  subst hn
  obtain ⟨hrow, hg⟩ := ownsRow_setCells [x] (k * 7 + j) h.row
  rw [flat_setMany stepE xs k j LL.z0 s [x] hk (by simp; omega) (by
    rw [hs, List.set_eq_take_append_cons_drop, if_pos (by simp [stepC]; omega)]; simp)] at hrow
  exact ⟨by rw [List.length_set]; simpa [World.setCells] using hrow, by rw [List.length_set]; exact h.room⟩
theorem Own.updSt (h : Own stepC 7 56 e w (.slice (some ⟨g, 0, none⟩) n c) (LL.tab n f)) (k : Nat) (hk : k < n) (j : Nat) {x : Value} {s : LL.Step} (hj : j < 7) (hs : stepC s = (stepC (f k)).set j x) (hf : LL.upd f k s = f') :
    Own stepC 7 56 e (w.setCell ⟨g, k * 7 + j, none⟩ x) (.slice (some ⟨g, 0, none⟩) n c) (LL.tab n f') := by
  have := h.setSt (LL.tab_len _ _) k hk j (s := s) hj (by rw [LL.tab_getD hk]; exact hs)
  rw [LL.tab_upd _ _ _ hk, hf] at this
  exact this
end
set_option maxRecDepth 100000 in
set_option maxHeartbeats 4000000 in
theorem impl_FlyShift_c (p : LL.Path) (A : Option Addr) (c : Nat) (d : Int) (w : World) (h : RdS w A p.steps.length c p.steps) : Calls Try.prog 23 #[.agg #[.int .i64 p.q, .int .i64 p.s, .slice A p.steps.length c, .int .i64 p.fr, .int .i64 p.by_], .int .i64 d] w (MkPB 79 w (LL.shiftM p d) (decide (LL.ShOk p d))) := by
  have hroom := h.room
  by_cases hP : LL.PathOk p
  · by_cases hD : LL.In d (-10000) 10000
    · have hn0 : 0 < p.steps.length := by have := hP.2.1.1; omega
      have hn1 : p.steps.length ≤ 40 := by have := hP.2.1.2; omega
      have hOk : decide (LL.PathOk p) = true := decide_eq_true hP
      go_enter Try.func23, Try.ntmps23
      go_wp2_with fail
      refine calls_name (fun W => Below w.heap.size w W ∧ Blk W w.heap.size #[.int .i64 p.q, .int .i64 p.s, .slice A p.steps.length c, .int .i64 p.fr, .int .i64 p.by_] 33 ∧ Blk W (w.heap.size + 1) #[.int .i64 0, .int .i64 0, .slice none 0 0, .int .i64 0, .int .i64 0] 33) ⟨(by repeat' (first | with_reducible exact Below.refl _ _ | with_reducible assumption | with_reducible refine b_alloc ?_ _ | with_reducible refine b_drewN ?_ _ | with_reducible refine b_drew ?_ | with_reducible refine b_set ?_ (by first | (simp only [World.size_setCell, World.size_alloc, World.size_drew]; omega) | (simp; done) | (simp; omega)) _ | with_reducible refine b_step ?_ (by with_reducible assumption))), (by repeat' (first | with_reducible assumption | with_reducible exact Blk.new _ _ _ | with_reducible exact Blk.new' _ _ (by first | (simp only [World.size_alloc, World.size_setCell, World.size_drew]; done) | (simp only [World.size_alloc, World.size_setCell, World.size_drew]; omega) | omega) | with_reducible refine Blk.a ?_ _ | with_reducible refine Blk.d ?_ | with_reducible refine Blk.dN ?_ _ | with_reducible refine Blk.s ?_ (by simp only [ne_eq]; omega) _ | with_reducible refine Blk.b ?_ (by with_reducible assumption))), (by repeat' (first | with_reducible assumption | with_reducible exact Blk.new _ _ _ | with_reducible exact Blk.new' _ _ (by first | (simp only [World.size_alloc, World.size_setCell, World.size_drew]; done) | (simp only [World.size_alloc, World.size_setCell, World.size_drew]; omega) | omega) | with_reducible refine Blk.a ?_ _ | with_reducible refine Blk.d ?_ | with_reducible refine Blk.dN ?_ _ | with_reducible refine Blk.s ?_ (by simp only [ne_eq]; omega) _ | with_reducible refine Blk.b ?_ (by with_reducible assumption)))⟩ ?_
      rintro W1 ⟨hb, kP, kR⟩
      refine (impl_FlyPathOk_c p A c _ (h.mono hb)).mono ?_
      rintro e W2 ⟨rfl, hB⟩
      replace hb := b_step hb hB
      replace kP := kP.b hB
      replace kR := kR.b hB
      clear hB
      rw [hOk]
      obtain ⟨eP, fP, lP⟩ := kP.cells
      obtain ⟨eR, fR, lR⟩ := kR.cells
      go_wp2_with (go_at_call 65; refine (impl_in_c _ _ _ _).mono ?_; rintro e w' ⟨rfl, rfl⟩)
      refine calls_name (fun W => Below W2.heap.size W2 W) (by repeat' (first | with_reducible exact Below.refl _ _ | with_reducible assumption | with_reducible refine b_alloc ?_ _ | with_reducible refine b_drewN ?_ _ | with_reducible refine b_drew ?_ | with_reducible refine b_set ?_ (by first | (simp only [World.size_setCell, World.size_alloc, World.size_drew]; omega) | (simp; done) | (simp; omega)) _ | with_reducible refine b_step ?_ (by with_reducible assumption))) ?_
      intro W3 hE
      replace hb := b_step hb hE
      replace kP := kP.b hE
      replace kR := kR.b hE
      clear hE eP fP lP eR fR lR
      refine (impl_copyPath_c p A c _ (h.mono hb)).mono ?_
      intro e W4 hM
      obtain ⟨A2, c2, rfl, hO, hOg, hB⟩ := hM.gop
      have hO2 : ∀ k, Value.ownBlock (.slice A2 p.steps.length c2) = some k → w.heap.size + 1 < k := fun k hk => by have := hOg k hk; have := kR.cells.2.2; omega
      replace hb := b_step hb hB
      replace kP := kP.b hB
      replace kR := kR.b hB
      clear hB hM hOg
      obtain ⟨eP, fP, lP⟩ := kP.cells
      go_wp2_with fail
      refine wp_name (fun W => Below w.heap.size w W ∧ Blk W w.heap.size #[.int .i64 p.q, .int .i64 p.s, .slice A2 p.steps.length c2, .int .i64 p.fr, .int .i64 p.by_] 33 ∧ Blk W (w.heap.size + 1) #[.int .i64 0, .int .i64 0, .slice none 0 0, .int .i64 0, .int .i64 0] 33 ∧ Own stepC 7 56 79 W (.slice A2 p.steps.length c2) (LL.tab p.steps.length (LL.mix (LL.shF p d) p.steps LL.z0 0))) ⟨(by repeat' (first | with_reducible exact Below.refl _ _ | with_reducible assumption | with_reducible refine b_alloc ?_ _ | with_reducible refine b_drewN ?_ _ | with_reducible refine b_drew ?_ | with_reducible refine b_set ?_ (by first | (simp only [World.size_setCell, World.size_alloc, World.size_drew]; omega) | (simp; done) | (simp; omega)) _ | with_reducible refine b_step ?_ (by with_reducible assumption))), by simpa using ((((kP.put 0 (.int .i64 p.q)).put 1 (.int .i64 p.s)).put 2 (.slice A2 p.steps.length c2)).put 3 (.int .i64 p.fr)).put 4 (.int .i64 p.by_), (by repeat' (first | with_reducible assumption | with_reducible exact Blk.new _ _ _ | with_reducible exact Blk.new' _ _ (by first | (simp only [World.size_alloc, World.size_setCell, World.size_drew]; done) | (simp only [World.size_alloc, World.size_setCell, World.size_drew]; omega) | omega) | with_reducible refine Blk.a ?_ _ | with_reducible refine Blk.d ?_ | with_reducible refine Blk.dN ?_ _ | with_reducible refine Blk.s ?_ (by simp only [ne_eq]; omega) _ | with_reducible refine Blk.b ?_ (by with_reducible assumption))), by rw [LL.mix_zero]; exact ((((hO.s _ (fun k hk => by have := hO2 k hk; simp only; omega)).s _ (fun k hk => by have := hO2 k hk; simp only; omega)).s _ (fun k hk => by have := hO2 k hk; simp only; omega)).s _ (fun k hk => by have := hO2 k hk; simp only; omega)).s _ (fun k hk => by have := hO2 k hk; simp only; omega)⟩ ?_
      clear hb kP kR hO eP fP lP
      rintro W5 ⟨hb, kP, kR, hO⟩
      go_loopw [21] (fun i wr => ∃ k : Nat, k ≤ p.steps.length ∧ i = .int .i64 k ∧ Below w.heap.size w wr ∧ Blk wr w.heap.size #[.int .i64 p.q, .int .i64 p.s, .slice A2 p.steps.length c2, .int .i64 p.fr, .int .i64 p.by_] 33 ∧ Blk wr (w.heap.size + 1) #[.int .i64 0, .int .i64 0, .slice none 0 0, .int .i64 0, .int .i64 0] 33 ∧ Own stepC 7 56 79 wr (.slice A2 p.steps.length c2) (LL.tab p.steps.length (LL.mix (LL.shF p d) p.steps LL.z0 k))) (fun i _ => p.steps.length - (intOf i).toNat)
      case atStart => exact ⟨0, Nat.zero_le _, rfl, hb, kP, kR, hO⟩
      case round =>
        clear hb kP kR hO
        obtain ⟨k, hk, rfl, hb, kP, kR, hO⟩ := hrel
        obtain ⟨eP, fP, lP⟩ := kP.cells
        by_cases hlt : k < p.steps.length
        · obtain ⟨g, rfl⟩ := hO.someA (by rw [LL.tab_len]; omega)
          have hgl := hO2 g rfl
          have hSt := hO.St k hlt
          rw [LL.mix_here] at hSt
          obtain ⟨c4, c5, f0, gl⟩ := hSt
          have hw := (hP.2.2.2.2.2 k hlt).1
          obtain ⟨_, _, _, _, _, w0, w1, w2⟩ := hw
          simp only [LL.nth] at w0 w1 w2
          obtain ⟨hd0, hd1⟩ := hD
          generalize hs : p.steps.getD k LL.z0 = s at c4 c5 w0 w1 w2
          have Hs := Lib.hid hs
          clear hs
          go_wp2_with fail
          go_roundw
          case rel =>
            have hs := Hs.out
            refine ⟨k + 1, by omega, by go_num, b_set (b_set hb (by simp only; omega) _) (by simp only; omega) _, (kP.s (by simp only [ne_eq]; omega) _).s (by simp only [ne_eq]; omega) _, (kR.s (by simp only [ne_eq]; omega) _).s (by simp only [ne_eq]; omega) _, ?_⟩
            have H1 := hO.updSt k hlt 4 (x := .int .i64 (s.fr + d)) (s := ⟨s.x, s.y, s.lo, s.hi, s.fr + d, s.by_, s.hold⟩) (by omega) (by rw [LL.mix_here, hs]; rfl) rfl
            have H2 := H1.updSt k hlt 5 (x := .int .i64 (s.by_ + d)) (s := LL.shF p d k) (by omega) (by rw [LL.upd_same]; simp only [LL.shF, LL.shS, LL.nth, hs]; rfl) (by rw [LL.upd_upd, LL.mix_next])
            exact H2
          case measure => simp [intOf]; omega
        · obtain rfl : k = p.steps.length := by omega
          rw [LL.mix_all] at hO
          have HP0 := Lib.hid hP
          obtain ⟨_, _, v0, v1, v2, _⟩ := hP
          obtain ⟨hd0, hd1⟩ := hD
          go_wp2_with fail
          refine calls_name (fun W => Below w.heap.size w W ∧ Blk W w.heap.size #[.int .i64 p.q, .int .i64 p.s, .slice A2 p.steps.length c2, .int .i64 (p.fr + d), .int .i64 (p.by_ + d)] 33 ∧ Blk W (w.heap.size + 1) #[.int .i64 0, .int .i64 0, .slice none 0 0, .int .i64 0, .int .i64 0] 33 ∧ Own stepC 7 56 79 W (.slice A2 p.steps.length c2) (LL.tab p.steps.length (LL.shF p d))) ⟨(by repeat' (first | with_reducible exact Below.refl _ _ | with_reducible assumption | with_reducible refine b_alloc ?_ _ | with_reducible refine b_drewN ?_ _ | with_reducible refine b_drew ?_ | with_reducible refine b_set ?_ (by first | (simp only [World.size_setCell, World.size_alloc, World.size_drew]; omega) | (simp; done) | (simp; omega)) _ | with_reducible refine b_step ?_ (by with_reducible assumption))), by simpa using (kP.put 3 (.int .i64 (p.fr + d))).put 4 (.int .i64 (p.by_ + d)), (by repeat' (first | with_reducible assumption | with_reducible exact Blk.new _ _ _ | with_reducible exact Blk.new' _ _ (by first | (simp only [World.size_alloc, World.size_setCell, World.size_drew]; done) | (simp only [World.size_alloc, World.size_setCell, World.size_drew]; omega) | omega) | with_reducible refine Blk.a ?_ _ | with_reducible refine Blk.d ?_ | with_reducible refine Blk.dN ?_ _ | with_reducible refine Blk.s ?_ (by simp only [ne_eq]; omega) _ | with_reducible refine Blk.b ?_ (by with_reducible assumption))), (hO.s _ (fun k hk => by have := hO2 k hk; simp only; omega)).s _ (fun k hk => by have := hO2 k hk; simp only; omega)⟩ ?_
          clear hb kP kR hO eP fP lP
          rintro W6 ⟨hb, kP, kR, hO⟩
          have hl : (LL.shP p d).steps.length = p.steps.length := LL.tab_len _ _
          have HC := impl_FlyPathOk_c (LL.shP p d) A2 c2 W6 (by rw [hl]; exact hO.rd_at' stepE)
          rw [hl] at HC
          refine HC.mono ?_
          clear HC
          rintro e W7 ⟨rfl, hB⟩
          replace hb := b_step hb hB
          replace kP := kP.b hB
          replace kR := kR.b hB
          replace hO := hO.b hB
          clear hB
          obtain ⟨eP, fP, lP⟩ := kP.cells
          obtain ⟨eR, fR, lR⟩ := kR.cells
          by_cases hQ : LL.PathOk (LL.shP p d)
          · rw [decide_eq_true hQ]
            go_wp2_with fail
            (refine bodyPost_ret (res_ct rfl _ [.int .i64 p.q, .int .i64 p.s, .slice A2 p.steps.length c2, .int .i64 (p.fr + d), .int .i64 (p.by_ + d)] rfl _ rfl _ Try.underlying33 rfl (by kernel_rfl) (by simp only [CellsAt, and_true]; and_intros <;> go_simp)) rfl ?_)
            have hS : LL.ShOk p d := ⟨HP0.out, ⟨hd0, hd1⟩, hQ⟩
            rw [LL.shiftM_yes hS, decide_eq_true hS]
            exact ⟨_, rfl, ((((hO.s _ (fun k hk => by have := hO2 k hk; simp only; omega)).s _ (fun k hk => by have := hO2 k hk; simp only; omega)).s _ (fun k hk => by have := hO2 k hk; simp only; omega)).s _ (fun k hk => by have := hO2 k hk; simp only; omega)).s _ (fun k hk => by have := hO2 k hk; simp only; omega), fun k hk => by have := hO2 k hk; omega, (by repeat' (first | with_reducible exact Below.refl _ _ | with_reducible assumption | with_reducible refine b_alloc ?_ _ | with_reducible refine b_drewN ?_ _ | with_reducible refine b_drew ?_ | with_reducible refine b_set ?_ (by first | (simp only [World.size_setCell, World.size_alloc, World.size_drew]; omega) | (simp; done) | (simp; omega)) _ | with_reducible refine b_step ?_ (by with_reducible assumption)))⟩
          · rw [decide_eq_false hQ]
            go_wp2_with fail
            (refine bodyPost_ret (res_ct rfl _ [.int .i64 0, .int .i64 0, .slice none 0 0, .int .i64 0, .int .i64 0] rfl _ rfl _ Try.underlying33 rfl (by kernel_rfl) (by simp only [CellsAt, and_true]; and_intros <;> go_simp)) rfl ?_)
            have hS : ¬ LL.ShOk p d := fun hS => hQ hS.2.2
            rw [LL.shiftM_no hS, decide_eq_false hS]
            exact ⟨_, rfl, ⟨World.ownsRow_nil _ _ _ _, by simp [LL.p0]⟩, fun k hk => by simp [Value.ownBlock] at hk, (by repeat' (first | with_reducible exact Below.refl _ _ | with_reducible assumption | with_reducible refine b_alloc ?_ _ | with_reducible refine b_drewN ?_ _ | with_reducible refine b_drew ?_ | with_reducible refine b_set ?_ (by first | (simp only [World.size_setCell, World.size_alloc, World.size_drew]; omega) | (simp; done) | (simp; omega)) _ | with_reducible refine b_step ?_ (by with_reducible assumption)))⟩
    · go_enter Try.func23, Try.ntmps23
      go_wp2_with fail
      refine calls_name (fun W => Below w.heap.size w W ∧ Blk W w.heap.size #[.int .i64 p.q, .int .i64 p.s, .slice A p.steps.length c, .int .i64 p.fr, .int .i64 p.by_] 33 ∧ Blk W (w.heap.size + 1) #[.int .i64 0, .int .i64 0, .slice none 0 0, .int .i64 0, .int .i64 0] 33) ⟨(by repeat' (first | with_reducible exact Below.refl _ _ | with_reducible assumption | with_reducible refine b_alloc ?_ _ | with_reducible refine b_drewN ?_ _ | with_reducible refine b_drew ?_ | with_reducible refine b_set ?_ (by first | (simp only [World.size_setCell, World.size_alloc, World.size_drew]; omega) | (simp; done) | (simp; omega)) _ | with_reducible refine b_step ?_ (by with_reducible assumption))), (by repeat' (first | with_reducible assumption | with_reducible exact Blk.new _ _ _ | with_reducible exact Blk.new' _ _ (by first | (simp only [World.size_alloc, World.size_setCell, World.size_drew]; done) | (simp only [World.size_alloc, World.size_setCell, World.size_drew]; omega) | omega) | with_reducible refine Blk.a ?_ _ | with_reducible refine Blk.d ?_ | with_reducible refine Blk.dN ?_ _ | with_reducible refine Blk.s ?_ (by simp only [ne_eq]; omega) _ | with_reducible refine Blk.b ?_ (by with_reducible assumption))), (by repeat' (first | with_reducible assumption | with_reducible exact Blk.new _ _ _ | with_reducible exact Blk.new' _ _ (by first | (simp only [World.size_alloc, World.size_setCell, World.size_drew]; done) | (simp only [World.size_alloc, World.size_setCell, World.size_drew]; omega) | omega) | with_reducible refine Blk.a ?_ _ | with_reducible refine Blk.d ?_ | with_reducible refine Blk.dN ?_ _ | with_reducible refine Blk.s ?_ (by simp only [ne_eq]; omega) _ | with_reducible refine Blk.b ?_ (by with_reducible assumption)))⟩ ?_
      rintro W1 ⟨hb, kP, kR⟩
      refine (impl_FlyPathOk_c p A c _ (h.mono hb)).mono ?_
      rintro e W2 ⟨rfl, hB⟩
      replace hb := b_step hb hB
      replace kP := kP.b hB
      replace kR := kR.b hB
      clear hB
      rw [decide_eq_true hP]
      obtain ⟨eP, fP, lP⟩ := kP.cells
      obtain ⟨eR, fR, lR⟩ := kR.cells
      go_wp2_with (go_at_call 65; refine (impl_in_c _ _ _ _).mono ?_; rintro e w' ⟨rfl, rfl⟩)
      (refine bodyPost_ret (res_ct rfl _ [.int .i64 0, .int .i64 0, .slice none 0 0, .int .i64 0, .int .i64 0] rfl _ rfl _ Try.underlying33 rfl (by kernel_rfl) (by simp only [CellsAt, and_true]; and_intros <;> go_simp)) rfl ?_)
      have hS : ¬ LL.ShOk p d := fun hS => hD hS.2.1
      rw [LL.shiftM_no hS, decide_eq_false hS]
      exact ⟨_, rfl, ⟨World.ownsRow_nil _ _ _ _, by simp [LL.p0]⟩, fun k hk => by simp [Value.ownBlock] at hk, (by repeat' (first | with_reducible exact Below.refl _ _ | with_reducible assumption | with_reducible refine b_alloc ?_ _ | with_reducible refine b_drewN ?_ _ | with_reducible refine b_drew ?_ | with_reducible refine b_set ?_ (by first | (simp only [World.size_setCell, World.size_alloc, World.size_drew]; omega) | (simp; done) | (simp; omega)) _ | with_reducible refine b_step ?_ (by with_reducible assumption)))⟩
  · go_enter Try.func23, Try.ntmps23
    go_wp2_with fail
    refine calls_name (fun W => Below w.heap.size w W ∧ Blk W w.heap.size #[.int .i64 p.q, .int .i64 p.s, .slice A p.steps.length c, .int .i64 p.fr, .int .i64 p.by_] 33 ∧ Blk W (w.heap.size + 1) #[.int .i64 0, .int .i64 0, .slice none 0 0, .int .i64 0, .int .i64 0] 33) ⟨(by repeat' (first | with_reducible exact Below.refl _ _ | with_reducible assumption | with_reducible refine b_alloc ?_ _ | with_reducible refine b_drewN ?_ _ | with_reducible refine b_drew ?_ | with_reducible refine b_set ?_ (by first | (simp only [World.size_setCell, World.size_alloc, World.size_drew]; omega) | (simp; done) | (simp; omega)) _ | with_reducible refine b_step ?_ (by with_reducible assumption))), (by repeat' (first | with_reducible assumption | with_reducible exact Blk.new _ _ _ | with_reducible exact Blk.new' _ _ (by first | (simp only [World.size_alloc, World.size_setCell, World.size_drew]; done) | (simp only [World.size_alloc, World.size_setCell, World.size_drew]; omega) | omega) | with_reducible refine Blk.a ?_ _ | with_reducible refine Blk.d ?_ | with_reducible refine Blk.dN ?_ _ | with_reducible refine Blk.s ?_ (by simp only [ne_eq]; omega) _ | with_reducible refine Blk.b ?_ (by with_reducible assumption))), (by repeat' (first | with_reducible assumption | with_reducible exact Blk.new _ _ _ | with_reducible exact Blk.new' _ _ (by first | (simp only [World.size_alloc, World.size_setCell, World.size_drew]; done) | (simp only [World.size_alloc, World.size_setCell, World.size_drew]; omega) | omega) | with_reducible refine Blk.a ?_ _ | with_reducible refine Blk.d ?_ | with_reducible refine Blk.dN ?_ _ | with_reducible refine Blk.s ?_ (by simp only [ne_eq]; omega) _ | with_reducible refine Blk.b ?_ (by with_reducible assumption)))⟩ ?_
    rintro W1 ⟨hb, kP, kR⟩
    refine (impl_FlyPathOk_c p A c _ (h.mono hb)).mono ?_
    rintro e W2 ⟨rfl, hB⟩
    replace hb := b_step hb hB
    replace kP := kP.b hB
    replace kR := kR.b hB
    clear hB
    rw [decide_eq_false hP]
    obtain ⟨eP, fP, lP⟩ := kP.cells
    obtain ⟨eR, fR, lR⟩ := kR.cells
    go_wp2_with fail
    (refine bodyPost_ret (res_ct rfl _ [.int .i64 0, .int .i64 0, .slice none 0 0, .int .i64 0, .int .i64 0] rfl _ rfl _ Try.underlying33 rfl (by kernel_rfl) (by simp only [CellsAt, and_true]; and_intros <;> go_simp)) rfl ?_)
    have hS : ¬ LL.ShOk p d := fun hS => hP hS.1
    rw [LL.shiftM_no hS, decide_eq_false hS]
    exact ⟨_, rfl, ⟨World.ownsRow_nil _ _ _ _, by simp [LL.p0]⟩, fun k hk => by simp [Value.ownBlock] at hk, (by repeat' (first | with_reducible exact Below.refl _ _ | with_reducible assumption | with_reducible refine b_alloc ?_ _ | with_reducible refine b_drewN ?_ _ | with_reducible refine b_drew ?_ | with_reducible refine b_set ?_ (by first | (simp only [World.size_setCell, World.size_alloc, World.size_drew]; omega) | (simp; done) | (simp; omega)) _ | with_reducible refine b_step ?_ (by with_reducible assumption)))⟩
end Go.Proofs.Ytbcibaaolkbfbaa
