/- What is drawn: ticks that are asked for. -/
import Derived.Test.YtpeojnknfonmlaaRF
import Derived.Test.YtpeojnknfonmlaaJ6
set_option linter.unusedVariables false
set_option linter.unusedSimpArgs false
namespace Go.Proofs.Ytpeojnknfonmlaa
open Go.RowKit
/-- a row of one whole number that stands -/
def OneIn (g : Nat) (v : Value) (W : World) : Prop := ∃ b z e, v = .slice (some ⟨b, 0, none⟩) 1 1 ∧ Blk W b #[.int .i64 z] e ∧ b ≠ g
theorem LL.spansM_len {p : LL.Path} : (LL.spansM p).length ≤ p.steps.length + 1 := by
  unfold LL.spansM; split
  · unfold LL.spans; rw [LL.tab_len]; exact Nat.le_refl _
  · exact Nat.zero_le _
set_option maxRecDepth 100000 in
set_option maxHeartbeats 8000000 in
theorem spec_l10Asked_c (g N : Nat) (p : LL.Path) (A : Option Addr) (c : Nat) (w : World) (hr : Rdr 121 w g N) (hN : N ≤ 90000) (hp : p.steps.length ≤ 60) (hS : RdS w A p.steps.length c p.steps) : Calls Try.prog 78 #[.pointer (some ⟨g, 0, none⟩), .agg #[.int .i64 p.q, .int .i64 p.s, .slice A p.steps.length c, .int .i64 p.fr, .int .i64 p.by_]] w fun e w' => ∃ (xs : List Int) (A : Option Addr) (c : Nat), e = .returned (.slice A xs.length c) ∧ xs.length ≤ 61 ∧ Own intC 1 8 3 w' (.slice A xs.length c) xs ∧ (∀ j, (Value.slice A xs.length c).ownBlock = some j → w.heap.size ≤ j) ∧ GrownS w w' (fun k => k = g) ∧ Rdr 121 w' g (N + 1400) := by
  have hlt := hr.lt
  go_enter Try.func78, Try.ntmps78
  go_upto_region 3 with (go_at_call 33; go_loud (refine (spec_FlySpans_c p A c _ (by exact Rd.mono (by with_reducible assumption) (by repeat' (first | with_reducible exact Below.refl _ _ | with_reducible assumption | with_reducible refine b_alloc ?_ _ | with_reducible refine b_drewN ?_ _ | with_reducible refine b_drew ?_ | with_reducible refine b_set ?_ (by first | (simp only [World.size_setCell, World.size_alloc, World.size_drew]; omega) | (simp; done) | (simp; omega)) _ | with_reducible refine b_step ?_ (by with_reducible assumption))))).mono ?_); intro e w2 hM; obtain ⟨A2, c2, rfl, hO2, hOg2, hB2⟩ := hM.go2 spanE; have hz2 := hB2.size; (try simp only [World.size_alloc] at hz2 hOg2))
  have hG2 : GrownS w w2 (fun k => k = g) := (by repeat' (first | with_reducible exact GrownS.refl _ _ | with_reducible assumption | with_reducible refine gr_alloc ?_ _ | with_reducible refine gr_drew ?_ | with_reducible refine gr_s1 ?_ (by omega) _ _ | with_reducible refine GrownS.trans ?_ (by with_reducible assumption) | with_reducible refine gr_b ?_ (by with_reducible assumption)))
  have hR2 : Rdr 121 w2 g N := (by repeat' (first | with_reducible assumption | with_reducible refine Rdr.a ?_ _ | with_reducible refine Rdr.d ?_ | with_reducible refine Rdr.s1 ?_ (by omega) _ _ | with_reducible refine Rdr.b ?_ (by with_reducible assumption)))
  have hs60 := LL.spansM_len (p := p)
  have hE2 : Own intC 1 8 3 w2 (.slice (some ⟨w.heap.size + 1, 0, none⟩) 0 0) ([] : List Int) := (Own.made' (by simp)).b hB2
  have hL2 := hO2.rd_at' spanE
  have hOg2' := Lib.hid hOg2
  clear hOg2
  generalize hb2 : decide (LL.Flies p) = ok at *
  clear hb2
  generalize LL.spansM p = ls at *
  cases ok
  · go_wp2
    go_loopw [5, 8] (fun o i wr => o = .slice (some ⟨w.heap.size + 1, 0, none⟩) 0 0 ∧ i = .int .i64 0 ∧ Below w2.heap.size w2 wr) (fun _ _ _ => 0)
    case atStart => exact ⟨rfl, rfl, (by repeat' (first | with_reducible exact Below.refl _ _ | with_reducible assumption | with_reducible refine b_alloc ?_ _ | with_reducible refine b_drewN ?_ _ | with_reducible refine b_drew ?_ | with_reducible refine b_set ?_ (by first | (simp only [World.size_setCell, World.size_alloc, World.size_drew]; omega) | (simp; done) | (simp; omega)) _ | with_reducible refine b_step ?_ (by with_reducible assumption)))⟩
    case round =>
      obtain ⟨rfl, rfl, hb⟩ := hrel
      go_wp2
      go_ret
      exact ⟨[], some ⟨w.heap.size + 1, 0, none⟩, 0, rfl, by simp, hE2.b hb, fun j hj => by simp [Value.ownBlock] at hj; omega, gr_b hG2 hb, (hR2.b hb).up (by omega)⟩
  go_wp2
  go_loopw [5, 8] (fun o i wr => ∃ (k : Nat) (A5 : Option Addr) (c5 : Nat) (xs : List Int), k ≤ ls.length ∧ i = .int .i64 k ∧ xs.length = k ∧ o = .slice A5 k c5 ∧ Own intC 1 8 3 wr (.slice A5 k c5) xs ∧ (∀ j, (Value.slice A5 k c5).ownBlock = some j → w.heap.size ≤ j ∧ (Value.slice A2 ls.length c2).ownBlock ≠ some j) ∧ Own spanC 2 16 60 wr (.slice A2 ls.length c2) ls ∧ GrownS w wr (fun k => k = g) ∧ Rdr 121 wr g (N + 22 * k)) (fun _ i _ => ls.length - (intOf i).toNat)
  case atStart => exact ⟨0, _, 0, [], by omega, rfl, rfl, rfl, hE2, (fun j hj => by simp [Value.ownBlock] at hj; subst hj; exact ⟨by omega, fun e => by have := hOg2'.out _ e; omega⟩), hO2, hG2, hR2⟩
  case round =>
    obtain ⟨k, A5, c5, xs, hk, rfl, hxl, rfl, hO5, hge, hOL, hG, hR⟩ := hrel
    replace hge := Lib.hid hge
    replace hxl := Lib.hid hxl
    by_cases hlk : k < ls.length
    · obtain ⟨bL, oL, rfl, hbL⟩ := (hOL.rd_at' spanE).addr (by omega)
      obtain ⟨d0, d1⟩ := (hOL.rd_at' spanE).S2 k hlk
      have hbg : bL ≠ g := by have := hOg2'.out bL rfl; omega
      generalize LL.nthP ls k = sp at d0 d1
      have hzr := hG.size
      go_wp2
      refine rel2_tail_b 22 [(19, IsInt, NoFact), (21, IsArr 1, OneIn g)] hR (by kernel_rfl) (by kernel_rfl) ?_
      simp only [List.take_succ_cons, List.take_zero, List.drop_succ_cons, List.drop_zero]
      iterate 19 ((apply rel2_plain (hR := rfl) (hF := fun _ => trivial) (hg := rfl)); (focus ((intro w' hL'); (obtain ⟨hcS, hfS⟩ := gcell1 hL'); (go_simp); (try go_bits); (try (first | (rw [if_pos (by omega)]; done) | (rw [if_neg (by omega)]; done) | (rw [if_pos (by omega)]; go_simp) | (rw [if_neg (by omega)]; go_simp))); (first | with_reducible rfl | exact rfl | skip))); (simp only [Act.put, List.setIfInBounds_toArray, List.set_cons_zero, List.set_cons_succ]))
      ((apply rel2_told (hR := rfl) (hg := rfl)); (focus ((refine ⟨.int .i64 0, ?_⟩); ((repeat (first | (refine Tell2.hits rfl ?_) | (refine Tell2.skips rfl ?_))); exact ⟨0, rfl⟩))); (focus ((intro w' M hL' hR' hM' hD'); (obtain ⟨hcS, hfS⟩ := gcell1 hL'); skip; (go_simp); (try go_bits); (try (first | (rw [if_pos (by omega)]; done) | (rw [if_neg (by omega)]; done) | (rw [if_pos (by omega)]; go_simp) | (rw [if_neg (by omega)]; go_simp))); ((go_at_call 69); (refine (spec_pick_c _ M _ _ hR' (by omega)).mono ?_); (rintro e w'' ⟨vp, rfl, h0, h1, hg, hr⟩); (refine ⟨_, rfl, hg, ?_, hr⟩); ((repeat (first | (refine Tell2.hit rfl ?_) | (refine Tell2.skip rfl ?_))); exact ⟨⟨vp, rfl⟩, trivial⟩)))); (intro v' hv'); (replace hv' := Tell2.outs hv' rfl); (obtain ⟨v1, rfl⟩ := hv'); (simp only [Act.put, List.setIfInBounds_toArray, List.set_cons_zero, List.set_cons_succ]))
      ((apply rel2_plain (hR := rfl) (hF := fun _ => trivial) (hg := rfl)); (focus ((intro w' hL'); (obtain ⟨hcS, hfS⟩ := gcell1 hL'); (go_simp); (try go_bits); (try (first | (rw [if_pos (by omega)]; done) | (rw [if_neg (by omega)]; done) | (rw [if_pos (by omega)]; go_simp) | (rw [if_neg (by omega)]; go_simp))); (first | with_reducible rfl | exact rfl | skip))); (simp only [Act.put, List.setIfInBounds_toArray, List.set_cons_zero, List.set_cons_succ]))
      ((apply rel2_told (hR := rfl) (hg := rfl)); (focus ((refine ⟨.slice (some ⟨0, 0, none⟩) 1 1, ?_⟩); ((repeat (first | (refine Tell2.hits rfl ?_) | (refine Tell2.skips rfl ?_))); exact ⟨0, rfl⟩))); (focus ((intro w' M hL' hR' hM' hD'); (obtain ⟨hcS, hfS⟩ := gcell1 hL'); skip; (go_simp); (try go_bits); (try (first | (rw [if_pos (by omega)]; done) | (rw [if_neg (by omega)]; done) | (rw [if_pos (by omega)]; go_simp) | (rw [if_neg (by omega)]; go_simp))); (refine ⟨gr_alloc (GrownS.refl _ _) _, ?_, (hR'.a _).up (by omega)⟩; ((repeat (first | (refine Tell2.hit rfl ?_) | (refine Tell2.skip rfl ?_))); exact ⟨⟨_, rfl⟩, ⟨_, _, _, rfl, Blk.new _ _ _, by have := hL'.size; omega⟩⟩)))); (intro v' hv'); (replace hv' := Tell2.outs hv' rfl); (obtain ⟨ba, rfl⟩ := hv'); (simp only [Act.put, List.setIfInBounds_toArray, List.set_cons_zero, List.set_cons_succ]))
      refine rel2_nil ?_
      intro w6 hL6 hR6 hF6
      obtain ⟨wk0, hlk0, b', z, e', hb', kB, hne⟩ := Known2.out (hF6 21) rfl
      injection hb' with hb'
      injection hb' with hb'
      injection hb' with hb'
      subst hb'
      have kB6 := kB.g1 hlk0 hne
      clear hF6 hlk0 kB
      have hO6 := hO5.g1 hL6 (B := w.heap.size) (fun j hj => (hge.out j hj).1) (by omega)
      have hOL6 := hOL.g1 hL6 (B := w.heap.size) (fun j hj => by have := hOg2'.out j hj; omega) (by omega)
      have hG6 := hG.trans hL6
      go_wp2_with (at_builtin; go_loud (refine wp_app (bytes := 8) (e := 3) rfl _ _ _ rfl intE (.int .i64 0) Try.underlying49 (by kernel_rfl) rfl (by decide) (v := (.slice A5 k c5)) rfl hO6 rfl (Rd.one (x := z) kB6 rfl (by decide)) (by have := hxl.out; omega) ?_); intro v7 w7 hO7 hg7 hat7; obtain ⟨A7, c7, e9, -⟩ := hO7.rd intE; rw [show (xs ++ [z]).length = k + 1 by simp [hxl.out]] at e9; subst e9)
      have lOL := hOL6.lt1
      have hge6 := hge.out
      have hxl6 := hxl.out
      have nL : (Value.slice (some ⟨bL, oL, none⟩) ls.length c2).ownBlock = none ∨ (Value.slice (some ⟨bL, oL, none⟩) ls.length c2).ownBlock ≠ (Value.slice A5 k c5).ownBlock := .inr (fun e => by
        have e2 : (Value.slice A5 k c5).ownBlock = some bL := e.symm
        exact (hge6 bL e2).2 rfl)
      have hz6 := hL6.size
      refine ⟨⟨k + 1, A7, c7, xs ++ [z], by omega, by go_num, by simp [hxl6], rfl, hO7, fun j hj => ?_, hOL6.grown hg7 nL, gr_gb hG6 hg7 (fun j hj => by have := (hge6 j hj).1; omega), ((hR6.gS (GrownS.of hg7) (fun j e => by have := (hge6 j e).1; omega)).up (by omega))⟩, by simp [intOf]; omega⟩
      rcases hat7 with e | e
      · rw [e] at hj; exact hge6 j hj
      · rw [e] at hj; cases hj
        exact ⟨by omega, fun e2 => by have := lOL _ e2; omega⟩
    · obtain rfl : k = ls.length := by omega
      go_wp2
      go_ret
      have hxl' := hxl.out
      exact ⟨xs, A5, c5, (by rw [hxl']; rfl), by omega, by rw [hxl']; exact hO5, fun j hj => by rw [hxl'] at hj; have := (hge.out j hj).1; omega, hG, hR.up (by omega)⟩
theorem l10Asked_mono {Q : Ending → World → Prop} {g N : Nat} {w : World} {p : LL.Path} {A : Option Addr} {c : Nat} (hp : p.steps.length ≤ 60) (hS : RdS w A p.steps.length c p.steps) (hr : Rdr 121 w g N) (hN : N ≤ 90000) (hk : ∀ (xs : List Int) (A : Option Addr) (c : Nat) (w' : World), xs.length ≤ 61 → Own intC 1 8 3 w' (.slice A xs.length c) xs → (∀ j, (Value.slice A xs.length c).ownBlock = some j → w.heap.size ≤ j) → GrownS w w' (fun k => k = g) → Rdr 121 w' g (N + 1400) → Q (.returned (.slice A xs.length c)) w') : Calls Try.prog 78 #[.pointer (some ⟨g, 0, none⟩), .agg #[.int .i64 p.q, .int .i64 p.s, .slice A p.steps.length c, .int .i64 p.fr, .int .i64 p.by_]] w Q :=
  (spec_l10Asked_c g N p A c w hr hN hp hS).mono fun e w' ⟨xs, A, c, he, h1, h2, h3, h4, h5⟩ => by subst he; exact hk xs A c w' h1 h2 h3 h4 h5
end Go.Proofs.Ytpeojnknfonmlaa
