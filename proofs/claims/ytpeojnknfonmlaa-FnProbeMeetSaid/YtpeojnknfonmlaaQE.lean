/- What is drawn: a tube. -/
import Derived.Test.YtpeojnknfonmlaaQD
import Derived.Test.YtpeojnknfonmlaaRC
import Derived.Test.YtpeojnknfonmlaaRD0
import Derived.Test.YtpeojnknfonmlaaHC
set_option linter.unusedVariables false
set_option linter.unusedSimpArgs false
namespace Go.Proofs.Ytpeojnknfonmlaa
open Go.RowKit
def IsBox (v : Value) : Prop := ∃ x : LL.Box, v = .agg #[.int .i64 x.x, .int .i64 x.y, .int .i64 x.lo, .int .i64 x.hi, .int .i64 x.i, .int .i64 x.o]
/-- a row of one box that stands -/
def BoxIn (g : Nat) (e : TypeId) (v : Value) (W : World) : Prop := ∃ (b : Nat) (x : LL.Box), v = .slice (some ⟨b, 0, none⟩) 1 1 ∧ Blk W b #[.int .i64 x.x, .int .i64 x.y, .int .i64 x.lo, .int .i64 x.hi, .int .i64 x.i, .int .i64 x.o] e ∧ b ≠ g
/-- a tube that is being drawn stands in block T, the box that it goes on with in block b -/
structure TSt (w : World) (g R T b : Nat) (s : ByteArray) (A : Option Addr) (c : Nat) (xs : List LL.Box) (N : Nat) (W : World) : Prop where
  gr : GrownS w W (fun k => k = g)
  rd : Rdr 116 W g N
  kR : Blk W R #[.string ⟨#[]⟩, .slice none 0 0] 25
  kT : Blk W T #[.string s, .slice A xs.length c] 25
  row : Own boxC 6 48 36 W (.slice A xs.length c) xs
  fr : ∀ j, (Value.slice A xs.length c).ownBlock = some j → w.heap.size ≤ j ∧ j ≠ b
  kB : ∃ x : LL.Box, Blk W b #[.int .i64 x.x, .int .i64 x.y, .int .i64 x.lo, .int .i64 x.hi, .int .i64 x.i, .int .i64 x.o] 36
  lt : g < w.heap.size ∧ w.heap.size ≤ R ∧ w.heap.size ≤ T ∧ w.heap.size ≤ b ∧ R ≠ T ∧ R ≠ b ∧ T ≠ b
section
variable {w W W' : World} {g R T b N M c d : Nat} {s : ByteArray} {A B : Option Addr} {xs ys : List LL.Box}
theorem TSt.go (h : TSt w g R T b s A c xs N W) (hg : GrownS W W' (fun k => k = g)) (hr : Rdr 116 W' g M) : TSt w g R T b s A c xs M W' := by
  have := h.lt
  obtain ⟨x, kB⟩ := h.kB
  exact ⟨h.gr.trans hg, hr, h.kR.g1 hg (by omega), h.kT.g1 hg (by omega), h.row.g1 hg (fun j hj => (h.fr j hj).1) (by omega), h.fr, ⟨x, kB.g1 hg (by omega)⟩, h.lt⟩
theorem TSt.up (h : TSt w g R T b s A c xs N W) (hM : N ≤ M) : TSt w g R T b s A c xs M W := { h with rd := h.rd.up hM }
theorem TSt.al (h : TSt w g R T b s A c xs N W) (o : Obj) : TSt w g R T b s A c xs N (W.alloc o) := by
  obtain ⟨x, kB⟩ := h.kB
  exact ⟨gr_alloc h.gr o, h.rd.a o, h.kR.a o, h.kT.a o, h.row.a o, h.fr, ⟨x, kB.a o⟩, h.lt⟩
theorem TSt.dr (h : TSt w g R T b s A c xs N W) : TSt w g R T b s A c xs N W.drew := by
  obtain ⟨x, kB⟩ := h.kB
  exact ⟨gr_drew h.gr, h.rd.d, h.kR.d, h.kT.d, h.row.d, h.fr, ⟨x, kB.d⟩, h.lt⟩
/-- a whole number is stored in the box -/
theorem TSt.put (h : TSt w g R T b s A c xs N W) (i : Nat) (hi : i < 6) (z : Int) : TSt w g R T b s A c xs N (W.setCell ⟨b, i, none⟩ (.int .i64 z)) := by
  have hl := h.lt
  obtain ⟨x, kB⟩ := h.kB
  refine ⟨gr_s1 h.gr (by omega) i _, h.rd.s1 (by omega) i _, h.kR.s (by simp only [ne_eq]; omega) _, h.kT.s (by simp only [ne_eq]; omega) _, h.row.s _ (fun j hj => (h.fr j hj).2), h.fr, ?_, h.lt⟩
  match i, hi with
  | 0, _ => exact ⟨⟨z, x.y, x.lo, x.hi, x.i, x.o⟩, kB.put 0 _⟩
  | 1, _ => exact ⟨⟨x.x, z, x.lo, x.hi, x.i, x.o⟩, kB.put 1 _⟩
  | 2, _ => exact ⟨⟨x.x, x.y, z, x.hi, x.i, x.o⟩, kB.put 2 _⟩
  | 3, _ => exact ⟨⟨x.x, x.y, x.lo, z, x.i, x.o⟩, kB.put 3 _⟩
  | 4, _ => exact ⟨⟨x.x, x.y, x.lo, x.hi, z, x.o⟩, kB.put 4 _⟩
  | 5, _ => exact ⟨⟨x.x, x.y, x.lo, x.hi, x.i, z⟩, kB.put 5 _⟩
theorem TSt.put6 (h : TSt w g R T b s A c xs N W) (y : LL.Box) : TSt w g R T b s A c xs N ((((((W.setCell ⟨b, 0, none⟩ (.int .i64 y.x)).setCell ⟨b, 1, none⟩ (.int .i64 y.y)).setCell ⟨b, 2, none⟩ (.int .i64 y.lo)).setCell ⟨b, 3, none⟩ (.int .i64 y.hi)).setCell ⟨b, 4, none⟩ (.int .i64 y.i)).setCell ⟨b, 5, none⟩ (.int .i64 y.o)) :=
  (((((h.put 0 (by omega) _).put 1 (by omega) _).put 2 (by omega) _).put 3 (by omega) _).put 4 (by omega) _).put 5 (by omega) _
theorem TSt.neR (h : TSt w g R T b s A c xs N W) : (Value.slice A xs.length c).ownBlock ≠ some R := fun e => h.row.neB2 h.kR (by decide) _ e rfl
theorem TSt.neT (h : TSt w g R T b s A c xs N W) : (Value.slice A xs.length c).ownBlock ≠ some T := fun e => h.row.neB2 h.kT (by decide) _ e rfl
/-- a box more -/
theorem TSt.app0 (h : TSt w g R T b s A c xs N W) (hO : Own boxC 6 48 36 W' (.slice B ys.length d) ys) (hg : W.grownBy W' (Value.slice A xs.length c).ownBlock) (ha : (Value.slice B ys.length d).ownBlock = (Value.slice A xs.length c).ownBlock ∨ (Value.slice B ys.length d).ownBlock = some W.heap.size) : TSt w g R T b s B d ys N (W'.setCell ⟨T, 1, none⟩ (.slice B ys.length d)) := by
  have h0 := h
  have h1 := h.lt
  have n1 := h.neR
  have n2 := h.neT
  obtain ⟨x, kB⟩ := h0.kB
  have lb := blk_lt kB.at_
  have lT := blk_lt h0.kT.at_
  have hz := h0.gr.size
  have hv : ∀ j, (Value.slice B ys.length d).ownBlock = some j → (w.heap.size ≤ j ∧ j ≠ b) ∧ j ≠ T := fun j hj => by
    rcases ha with e | e
    · rw [e] at hj; exact ⟨h.fr j hj, fun e2 => n2 (by rw [hj, e2])⟩
    · rw [e] at hj; cases hj; exact ⟨⟨by omega, by omega⟩, by omega⟩
  exact ⟨gr_s1 (gr_gb h0.gr hg (fun j hj => (h.fr j hj).1)) (by omega) 1 _, (h0.rd.gS (GrownS.of hg) (fun j e => by have := (h.fr j e).1; omega)).s1 (by omega) 1 _, (h0.kR.grown hg n1).s (by simp only [ne_eq]; omega) _, (h0.kT.grown hg n2).put 1 _, hO.s _ (fun j hj => (hv j hj).2), fun j hj => (hv j hj).1, ⟨x, (kB.grown hg (fun e => (h.fr b e).2 rfl)).s (by simp only [ne_eq]; omega) _⟩, h1⟩
/-- a box more, after its row was made -/
theorem TSt.app {o : Obj} (h : TSt w g R T b s A c xs N W) (hO : Own boxC 6 48 36 W' (.slice B ys.length d) ys) (hg : (W.alloc o).grownBy W' (Value.slice A xs.length c).ownBlock) (ha : (Value.slice B ys.length d).ownBlock = (Value.slice A xs.length c).ownBlock ∨ (Value.slice B ys.length d).ownBlock = some (W.alloc o).heap.size) : TSt w g R T b s B d ys N (W'.setCell ⟨T, 1, none⟩ (.slice B ys.length d)) := (h.al o).app0 hO hg ha
end
set_option maxRecDepth 100000 in
set_option maxHeartbeats 8000000 in
theorem spec_l12Tube_c (g N : Nat) (s : ByteArray) (w : World) (hr : Rdr 116 w g N) (hN : N ≤ 100000) : Calls Try.prog 98 #[.pointer (some ⟨g, 0, none⟩), .string s] w fun e w' => ∃ (xs : List LL.Box) (A : Option Addr) (c : Nat), e = .returned (.agg #[.string s, .slice A xs.length c]) ∧ xs.length ≤ 40 ∧ Own boxC 6 48 36 w' (.slice A xs.length c) xs ∧ (∀ j, (Value.slice A xs.length c).ownBlock = some j → w.heap.size ≤ j) ∧ GrownS w w' (fun k => k = g) ∧ Rdr 116 w' g (N + 12000) := by
  have hlt := hr.lt
  go_enter Try.func98, Try.ntmps98
  go_upto_region 3 with (go_at_call 110; (refine l11DrawBox_mono (N := N) (by repeat' (first | with_reducible assumption | with_reducible refine Rdr.a ?_ _ | with_reducible refine Rdr.d ?_ | with_reducible refine Rdr.s1 ?_ (by omega) _ _ | with_reducible refine Rdr.b ?_ (by with_reducible assumption))) (by omega) ?_); intro x w2 hg2 hr2; obtain ⟨hc, hf⟩ := gcell1 hg2; have hz2 := hg2.size; (try simp only [World.size_alloc] at hz2))
  have hP0 : TSt w g w.heap.size (w.heap.size + 1) w2.heap.size s none 0 [] (N + 30) (w2.alloc (.cells #[.int .i64 x.x, .int .i64 x.y, .int .i64 x.lo, .int .i64 x.hi, .int .i64 x.i, .int .i64 x.o] 36)) := ⟨(by repeat' (first | with_reducible exact GrownS.refl _ _ | with_reducible assumption | with_reducible refine gr_alloc ?_ _ | with_reducible refine gr_drew ?_ | with_reducible refine gr_s1 ?_ (by omega) _ _ | with_reducible refine GrownS.trans ?_ (by with_reducible assumption) | with_reducible refine gr_b ?_ (by with_reducible assumption))), (by repeat' (first | with_reducible assumption | with_reducible refine Rdr.a ?_ _ | with_reducible refine Rdr.d ?_ | with_reducible refine Rdr.s1 ?_ (by omega) _ _ | with_reducible refine Rdr.b ?_ (by with_reducible assumption))), (by repeat' (first | with_reducible assumption | with_reducible exact Blk.new _ _ _ | with_reducible exact Blk.new' _ _ (by simp only [World.size_alloc, World.size_setCell, World.size_drew]) | with_reducible exact Blk.new' _ _ (by omega) | with_reducible refine Blk.a ?_ _ | with_reducible refine Blk.d ?_ | with_reducible refine Blk.dN ?_ _ | with_reducible refine Blk.s ?_ (by simp only [ne_eq]; omega) _ | with_reducible refine Blk.b ?_ (by with_reducible assumption) | with_reducible refine Blk.g1 ?_ (by with_reducible assumption) (by omega))), (show Blk _ _ #[.string s, .slice none 0 0] _ from (by repeat' (first | with_reducible assumption | with_reducible exact Blk.new _ _ _ | with_reducible exact Blk.new' _ _ (by simp only [World.size_alloc, World.size_setCell, World.size_drew]) | with_reducible exact Blk.new' _ _ (by omega) | with_reducible refine Blk.a ?_ _ | with_reducible refine Blk.d ?_ | with_reducible refine Blk.dN ?_ _ | with_reducible refine Blk.s ?_ (by simp only [ne_eq]; omega) _ | with_reducible refine Blk.b ?_ (by with_reducible assumption) | with_reducible refine Blk.g1 ?_ (by with_reducible assumption) (by omega)))), ⟨World.ownsRow_nil _ _ _ _, by simp⟩, fun j hj => by simp [Value.ownBlock] at hj, ⟨x, Blk.new _ _ _⟩, by omega⟩
  refine wp_name (fun W => TSt w g w.heap.size (w.heap.size + 1) w2.heap.size s none 0 [] (N + 30) W) hP0 ?_
  clear hP0 hc hf hg2 hr2
  rintro W hP
  generalize w2.heap.size = b at *
  have hR := hP.rd
  go_wp2_with (go_at_call 100; (refine pick11_mono (N := ?_) ?_ ?_ ?_); (rotate_left); (focus (exact (by repeat' (first | with_reducible assumption | with_reducible refine Rdr.a ?_ _ | with_reducible refine Rdr.d ?_ | with_reducible refine Rdr.s1 ?_ (by omega) _ _ | with_reducible refine Rdr.b ?_ (by with_reducible assumption))))); (focus omega); intro v1 w3 hv0 hv1 hg1 hr1; obtain ⟨hc, hf⟩ := gcell1 hg1; (try simp only [World.size_drew] at hc hf); have hz := hg1.size; (try simp only [World.size_setCell, World.size_alloc, World.size_drew] at hz); (try have hv2 := pk_lt hv1 (by omega)); skip)
  have hP3 := hP.go hg1 hr1
  clear hP hg1 hr1 hc hf hz hR
  obtain ⟨n, rfl⟩ : ∃ n : Nat, v1 = n := ⟨v1.toNat, by omega⟩
  go_loopw [7, 8, 9] (fun nn x y wr => ∃ (m : Nat) (xs : List LL.Box) (A : Option Addr) (c : Nat), nn = .int .i64 m ∧ m ≤ 6 ∧ xs.length + m ≤ 6 ∧ TSt w g w.heap.size (w.heap.size + 1) b s A c xs (N + 31 + 90 * (6 - m)) wr) (fun nn _ _ _ => (intOf nn).toNat)
  case atStart => exact ⟨n, [], none, 0, rfl, by omega, by simp; omega, hP3.up (by omega)⟩
  case round =>
    obtain ⟨m, xs, A, c, rfl, hm, hxm, hP⟩ := hrel
    clear hP3
    by_cases hm0 : 0 < m
    · obtain ⟨m, rfl⟩ : ∃ k, m = k + 1 := ⟨m - 1, by omega⟩
      obtain ⟨e1, f1, l1⟩ := hP.kT.cells
      obtain ⟨x, kB⟩ := hP.kB
      obtain ⟨e2, f2, l2⟩ := kB.cells
      have hlt := hP.lt
      go_upto_region 7 with ((at_builtin; go_loud (refine wp_app (bytes := 48) (e := 36) rfl _ _ _ rfl boxE (.agg (boxC LL.b0).toArray) Try.underlying23 (by kernel_rfl) rfl (by decide) (v := (.slice A xs.length c)) rfl (hP.row.a _) rfl (Rd.one (x := x) (Blk.new _ _ _) rfl (by decide)) (by omega) ?_); intro v7 w7 hO7 hg7 hat7); have hql : (xs ++ [x]).length = xs.length + 1 := List.length_append ..; generalize xs ++ [x] = q at hO7 hql; obtain ⟨A7, c7, e9, -⟩ := hO7.rd boxE; subst e9; have kT7 := (hP.kT.a (.cells #[.int .i64 x.x, .int .i64 x.y, .int .i64 x.lo, .int .i64 x.hi, .int .i64 x.i, .int .i64 x.o] 36)).grown hg7 hP.neT; obtain ⟨e7, f7, l7⟩ := kT7.cells)
      have h8 := hP.app hO7 hg7 hat7
      rw [hql] at h8
      refine wp_name (fun W => TSt w g w.heap.size (w.heap.size + 1) b s A7 c7 q (N + 31 + 90 * (6 - (m + 1)) + 0) W) h8 ?_
      clear h8
      clear e1 f1 l1 e2 f2 l2 kB e7 f7 l7 kT7 hO7 hg7 hat7 hP
      rintro w8 h8
      have hR := h8.rd
      go_upto_if 28 with (go_at_call 100; (refine pick11_mono (N := ?_) ?_ ?_ ?_); (rotate_left); (focus (exact (by repeat' (first | with_reducible assumption | with_reducible refine Rdr.a ?_ _ | with_reducible refine Rdr.d ?_ | with_reducible refine Rdr.s1 ?_ (by omega) _ _ | with_reducible refine Rdr.b ?_ (by with_reducible assumption))))); (focus omega); intro v1 w9 hv0 hv1 hg1 hr1; obtain ⟨hc, hf⟩ := gcell1 hg1; (try simp only [World.size_drew] at hc hf); have hz := hg1.size; (try simp only [World.size_setCell, World.size_alloc, World.size_drew] at hz); (try have hv2 := pk_lt hv1 (by omega)); skip)
      have h9 := h8.go hg1 hr1
      clear hc hf hz hg1 hr1 hR h8
      obtain ⟨x, kB⟩ := h9.kB
      have lb := blk_lt kB.at_
      have nb : b ≠ g := by omega
      by_cases hv0' : v1 = 0
      · subst hv0'
        have hR := h9.rd
        go_wp2_with (go_at_call 110; (refine l11DrawBox_mono (N := N + 31 + 90 * (6 - (m + 1)) + 1) (by repeat' (first | with_reducible assumption | with_reducible refine Rdr.a ?_ _ | with_reducible refine Rdr.d ?_ | with_reducible refine Rdr.s1 ?_ (by omega) _ _ | with_reducible refine Rdr.b ?_ (by with_reducible assumption))) (by omega) ?_); intro y w10 hg10 hr10; have k10 := kB.g1 hg10 nb; obtain ⟨e2, f2, l2⟩ := k10.cells)
        go_roundw
        case rel => exact ⟨m, q, A7, c7, by go_num, by omega, by omega, ((h9.go hg10 hr10).put6 y).up (by omega)⟩
        case measure => first | (simp [intOf]; done) | (simp [intOf]; omega)
      · have hb0 : (v1 == 0) = false := by simp [hv0']
        clear kB lb
        go_upto_region 9 with fail
        go_cut [8] (fun v wc => (∃ z, v = .int .i64 z) ∧ TSt w g w.heap.size (w.heap.size + 1) b s A7 c7 q (N + 31 + 90 * (6 - (m + 1)) + 8) wc)
        case first =>
          obtain ⟨y, kB⟩ := h9.kB
          obtain ⟨e2, f2, l2⟩ := kB.cells
          have nb : b ≠ g := by have := h9.lt; omega
          refine rel2_tail_b 6 [(3, IsPick 3, NoFact)] h9.rd (by kernel_rfl) (by kernel_rfl) ?_
          simp only [List.take_succ_cons, List.take_zero, List.drop_succ_cons, List.drop_zero]
          iterate 3 ((apply rel2_plain (hR := rfl) (hF := fun _ => trivial) (hg := rfl)); (focus ((intro w' hL'); (obtain ⟨hcS, hfS⟩ := gcell1 hL'); (go_simp); (try go_bits); (try (first | (rw [if_pos (by omega)]; done) | (rw [if_neg (by omega)]; done) | (rw [if_pos (by omega)]; go_simp) | (rw [if_neg (by omega)]; go_simp))); (first | with_reducible rfl | exact rfl | skip))); (simp only [Act.put, List.setIfInBounds_toArray, List.set_cons_zero, List.set_cons_succ]))
          ((apply rel2_told (hR := rfl) (hg := rfl)); (focus ((refine ⟨.int .i64 0, ?_⟩); ((repeat (first | (refine Tell2.hits rfl ?_) | (refine Tell2.skips rfl ?_))); exact ⟨0, rfl, Int.le_refl _, .inr rfl⟩))); (focus ((intro w' M hL' hR' hM' hD'); (obtain ⟨hcS, hfS⟩ := gcell1 hL'); skip; (go_simp); (try go_bits); (try (first | (rw [if_pos (by omega)]; done) | (rw [if_neg (by omega)]; done) | (rw [if_pos (by omega)]; go_simp) | (rw [if_neg (by omega)]; go_simp))); ((go_at_call 100); (refine (spec_pick11_c _ M _ _ hR' (by omega)).mono ?_); (rintro e w'' ⟨vp, rfl, h0, h1, hg, hr⟩); (refine ⟨_, rfl, hg, ?_, hr⟩); ((repeat (first | (refine Tell2.hit rfl ?_) | (refine Tell2.skip rfl ?_))); exact ⟨⟨vp, rfl, h0, h1⟩, trivial⟩)))); (intro v' hv'); (replace hv' := Tell2.outs hv' rfl); (obtain ⟨v1, rfl, hv0, hv1⟩ := hv'); (simp only [Act.put, List.setIfInBounds_toArray, List.set_cons_zero, List.set_cons_succ]))
          iterate 2 ((apply rel2_plain (hR := rfl) (hF := fun _ => trivial) (hg := rfl)); (focus ((intro w' hL'); (obtain ⟨hcS, hfS⟩ := gcell1 hL'); (go_simp); (try go_bits); (try (first | (rw [if_pos (by omega)]; done) | (rw [if_neg (by omega)]; done) | (rw [if_pos (by omega)]; go_simp) | (rw [if_neg (by omega)]; go_simp))); (first | with_reducible rfl | exact rfl | skip))); (simp only [Act.put, List.setIfInBounds_toArray, List.set_cons_zero, List.set_cons_succ]))
          refine rel2_nil ?_
          intro w6 hL6 hR6 hF6
          clear hF6
          have h6 := h9.go hL6 hR6
          obtain ⟨hc, hf⟩ := gcell1 hL6
          go_wp2
          go_meet
          case rel => exact ⟨⟨_, rfl⟩, h6.up (by omega)⟩
        obtain ⟨⟨z8, rfl⟩, h10⟩ := hcut
        clear h9
        go_upto_region 10 with fail
        go_cut [9] (fun v wc => (∃ z, v = .int .i64 z) ∧ TSt w g w.heap.size (w.heap.size + 1) b s A7 c7 q (N + 31 + 90 * (6 - (m + 1)) + 15) wc)
        case first =>
          obtain ⟨y, kB⟩ := h10.kB
          obtain ⟨e2, f2, l2⟩ := kB.cells
          have nb : b ≠ g := by have := h10.lt; omega
          refine rel2_tail_b 6 [(3, IsPick 3, NoFact)] h10.rd (by kernel_rfl) (by kernel_rfl) ?_
          simp only [List.take_succ_cons, List.take_zero, List.drop_succ_cons, List.drop_zero]
          iterate 3 ((apply rel2_plain (hR := rfl) (hF := fun _ => trivial) (hg := rfl)); (focus ((intro w' hL'); (obtain ⟨hcS, hfS⟩ := gcell1 hL'); (go_simp); (try go_bits); (try (first | (rw [if_pos (by omega)]; done) | (rw [if_neg (by omega)]; done) | (rw [if_pos (by omega)]; go_simp) | (rw [if_neg (by omega)]; go_simp))); (first | with_reducible rfl | exact rfl | skip))); (simp only [Act.put, List.setIfInBounds_toArray, List.set_cons_zero, List.set_cons_succ]))
          ((apply rel2_told (hR := rfl) (hg := rfl)); (focus ((refine ⟨.int .i64 0, ?_⟩); ((repeat (first | (refine Tell2.hits rfl ?_) | (refine Tell2.skips rfl ?_))); exact ⟨0, rfl, Int.le_refl _, .inr rfl⟩))); (focus ((intro w' M hL' hR' hM' hD'); (obtain ⟨hcS, hfS⟩ := gcell1 hL'); skip; (go_simp); (try go_bits); (try (first | (rw [if_pos (by omega)]; done) | (rw [if_neg (by omega)]; done) | (rw [if_pos (by omega)]; go_simp) | (rw [if_neg (by omega)]; go_simp))); ((go_at_call 100); (refine (spec_pick11_c _ M _ _ hR' (by omega)).mono ?_); (rintro e w'' ⟨vp, rfl, h0, h1, hg, hr⟩); (refine ⟨_, rfl, hg, ?_, hr⟩); ((repeat (first | (refine Tell2.hit rfl ?_) | (refine Tell2.skip rfl ?_))); exact ⟨⟨vp, rfl, h0, h1⟩, trivial⟩)))); (intro v' hv'); (replace hv' := Tell2.outs hv' rfl); (obtain ⟨v1, rfl, hv0, hv1⟩ := hv'); (simp only [Act.put, List.setIfInBounds_toArray, List.set_cons_zero, List.set_cons_succ]))
          iterate 2 ((apply rel2_plain (hR := rfl) (hF := fun _ => trivial) (hg := rfl)); (focus ((intro w' hL'); (obtain ⟨hcS, hfS⟩ := gcell1 hL'); (go_simp); (try go_bits); (try (first | (rw [if_pos (by omega)]; done) | (rw [if_neg (by omega)]; done) | (rw [if_pos (by omega)]; go_simp) | (rw [if_neg (by omega)]; go_simp))); (first | with_reducible rfl | exact rfl | skip))); (simp only [Act.put, List.setIfInBounds_toArray, List.set_cons_zero, List.set_cons_succ]))
          refine rel2_nil ?_
          intro w6 hL6 hR6 hF6
          clear hF6
          have h6 := h10.go hL6 hR6
          obtain ⟨hc, hf⟩ := gcell1 hL6
          go_wp2
          go_meet
          case rel => exact ⟨⟨_, rfl⟩, h6.up (by omega)⟩
        obtain ⟨⟨z9, rfl⟩, h11⟩ := hcut
        clear h10
        go_upto_region 11 with fail
        go_cut [48] (fun v wc => (∃ z, v = .bool z) ∧ TSt w g w.heap.size (w.heap.size + 1) b s A7 c7 q (N + 31 + 90 * (6 - (m + 1)) + 15) wc)
        case first =>
          go_wp2_with (go_at_call 104; refine (spec_l11In_c _ _ _ _).mono ?_; rintro e w' ⟨rfl, rfl⟩)
          all_goals (go_meet; case rel => exact ⟨⟨_, rfl⟩, h11⟩)
        obtain ⟨⟨z, rfl⟩, h12⟩ := hcut
        clear h11
        go_upto_if 48 with fail
        go_cut [] (fun wc => TSt w g w.heap.size (w.heap.size + 1) b s A7 c7 q (N + 31 + 90 * (6 - (m + 1)) + 15) wc)
        case first =>
          obtain ⟨y, kB⟩ := h12.kB
          obtain ⟨e2, f2, l2⟩ := kB.cells
          cases z
          · go_wp2
            go_meet
            case rel => exact h12
          · go_wp2
            go_meet
            case rel => exact (h12.put 0 (by omega) _).put 1 (by omega) _
        have h13 := hcut
        clear hcut h12
        go_upto_region 14 with fail
        go_cut [56] (fun v wc => (∃ z, v = .bool z) ∧ TSt w g w.heap.size (w.heap.size + 1) b s A7 c7 q (N + 31 + 90 * (6 - (m + 1)) + 15) wc)
        case first =>
          obtain ⟨y, kB⟩ := h13.kB
          obtain ⟨e2, f2, l2⟩ := kB.cells
          go_wp2
          all_goals (go_meet; case rel => exact ⟨⟨_, rfl⟩, h13⟩)
        obtain ⟨⟨z, rfl⟩, h14⟩ := hcut
        clear h13
        go_upto_if 56 with fail
        cases z
        · go_wp2
          go_roundw
          case rel => exact ⟨m, q, A7, c7, by go_num, by omega, by omega, h14.up (by omega)⟩
          case measure => first | (simp [intOf]; done) | (simp [intOf]; omega)
        · go_upto_region 15 with fail
          go_cut [] (fun wc => TSt w g w.heap.size (w.heap.size + 1) b s A7 c7 q (N + 31 + 90 * (6 - (m + 1)) + 23) wc)
          case first =>
            obtain ⟨y, kB⟩ := h14.kB
            obtain ⟨e2, f2, l2⟩ := kB.cells
            have nb : b ≠ g := by have := h14.lt; omega
            refine rel2_tail_b 7 [(4, IsPick 4, NoFact)] h14.rd (by kernel_rfl) (by kernel_rfl) ?_
            simp only [List.take_succ_cons, List.take_zero, List.drop_succ_cons, List.drop_zero]
            iterate 4 ((apply rel2_plain (hR := rfl) (hF := fun _ => trivial) (hg := rfl)); (focus ((intro w' hL'); (obtain ⟨hcS, hfS⟩ := gcell1 hL'); (go_simp); (try go_bits); (try (first | (rw [if_pos (by omega)]; done) | (rw [if_neg (by omega)]; done) | (rw [if_pos (by omega)]; go_simp) | (rw [if_neg (by omega)]; go_simp))); (first | with_reducible rfl | exact rfl | skip))); (simp only [Act.put, List.setIfInBounds_toArray, List.set_cons_zero, List.set_cons_succ]))
            ((apply rel2_told (hR := rfl) (hg := rfl)); (focus ((refine ⟨.int .i64 0, ?_⟩); ((repeat (first | (refine Tell2.hits rfl ?_) | (refine Tell2.skips rfl ?_))); exact ⟨0, rfl, Int.le_refl _, .inr rfl⟩))); (focus ((intro w' M hL' hR' hM' hD'); (obtain ⟨hcS, hfS⟩ := gcell1 hL'); skip; (go_simp); (try go_bits); (try (first | (rw [if_pos (by omega)]; done) | (rw [if_neg (by omega)]; done) | (rw [if_pos (by omega)]; go_simp) | (rw [if_neg (by omega)]; go_simp))); ((go_at_call 100); (refine (spec_pick11_c _ M _ _ hR' (by omega)).mono ?_); (rintro e w'' ⟨vp, rfl, h0, h1, hg, hr⟩); (refine ⟨_, rfl, hg, ?_, hr⟩); ((repeat (first | (refine Tell2.hit rfl ?_) | (refine Tell2.skip rfl ?_))); exact ⟨⟨vp, rfl, h0, h1⟩, trivial⟩)))); (intro v' hv'); (replace hv' := Tell2.outs hv' rfl); (obtain ⟨v1, rfl, hv0, hv1⟩ := hv'); (simp only [Act.put, List.setIfInBounds_toArray, List.set_cons_zero, List.set_cons_succ]))
            iterate 2 ((apply rel2_plain (hR := rfl) (hF := fun _ => trivial) (hg := rfl)); (focus ((intro w' hL'); (obtain ⟨hcS, hfS⟩ := gcell1 hL'); (go_simp); (try go_bits); (try (first | (rw [if_pos (by omega)]; done) | (rw [if_neg (by omega)]; done) | (rw [if_pos (by omega)]; go_simp) | (rw [if_neg (by omega)]; go_simp))); (first | with_reducible rfl | exact rfl | skip))); (simp only [Act.put, List.setIfInBounds_toArray, List.set_cons_zero, List.set_cons_succ]))
            refine rel2_nil ?_
            intro w6 hL6 hR6 hF6
            clear hF6
            have h6 := h14.go hL6 hR6
            obtain ⟨hc, hf⟩ := gcell1 hL6
            go_wp2
            go_meet
            case rel => exact (h6.put 4 (by omega) _).up (by omega)
          have h15 := hcut
          clear hcut h14
          go_upto_region 16 with fail
          go_cut [] (fun wc => TSt w g w.heap.size (w.heap.size + 1) b s A7 c7 q (N + 31 + 90 * (6 - (m + 1)) + 31) wc)
          case first =>
            obtain ⟨y, kB⟩ := h15.kB
            obtain ⟨e2, f2, l2⟩ := kB.cells
            have nb : b ≠ g := by have := h15.lt; omega
            refine rel2_tail_b 7 [(4, IsPick 6, NoFact)] h15.rd (by kernel_rfl) (by kernel_rfl) ?_
            simp only [List.take_succ_cons, List.take_zero, List.drop_succ_cons, List.drop_zero]
            iterate 4 ((apply rel2_plain (hR := rfl) (hF := fun _ => trivial) (hg := rfl)); (focus ((intro w' hL'); (obtain ⟨hcS, hfS⟩ := gcell1 hL'); (go_simp); (try go_bits); (try (first | (rw [if_pos (by omega)]; done) | (rw [if_neg (by omega)]; done) | (rw [if_pos (by omega)]; go_simp) | (rw [if_neg (by omega)]; go_simp))); (first | with_reducible rfl | exact rfl | skip))); (simp only [Act.put, List.setIfInBounds_toArray, List.set_cons_zero, List.set_cons_succ]))
            ((apply rel2_told (hR := rfl) (hg := rfl)); (focus ((refine ⟨.int .i64 0, ?_⟩); ((repeat (first | (refine Tell2.hits rfl ?_) | (refine Tell2.skips rfl ?_))); exact ⟨0, rfl, Int.le_refl _, .inr rfl⟩))); (focus ((intro w' M hL' hR' hM' hD'); (obtain ⟨hcS, hfS⟩ := gcell1 hL'); skip; (go_simp); (try go_bits); (try (first | (rw [if_pos (by omega)]; done) | (rw [if_neg (by omega)]; done) | (rw [if_pos (by omega)]; go_simp) | (rw [if_neg (by omega)]; go_simp))); ((go_at_call 100); (refine (spec_pick11_c _ M _ _ hR' (by omega)).mono ?_); (rintro e w'' ⟨vp, rfl, h0, h1, hg, hr⟩); (refine ⟨_, rfl, hg, ?_, hr⟩); ((repeat (first | (refine Tell2.hit rfl ?_) | (refine Tell2.skip rfl ?_))); exact ⟨⟨vp, rfl, h0, h1⟩, trivial⟩)))); (intro v' hv'); (replace hv' := Tell2.outs hv' rfl); (obtain ⟨v1, rfl, hv0, hv1⟩ := hv'); (simp only [Act.put, List.setIfInBounds_toArray, List.set_cons_zero, List.set_cons_succ]))
            iterate 2 ((apply rel2_plain (hR := rfl) (hF := fun _ => trivial) (hg := rfl)); (focus ((intro w' hL'); (obtain ⟨hcS, hfS⟩ := gcell1 hL'); (go_simp); (try go_bits); (try (first | (rw [if_pos (by omega)]; done) | (rw [if_neg (by omega)]; done) | (rw [if_pos (by omega)]; go_simp) | (rw [if_neg (by omega)]; go_simp))); (first | with_reducible rfl | exact rfl | skip))); (simp only [Act.put, List.setIfInBounds_toArray, List.set_cons_zero, List.set_cons_succ]))
            refine rel2_nil ?_
            intro w6 hL6 hR6 hF6
            clear hF6
            have h6 := h15.go hL6 hR6
            obtain ⟨hc, hf⟩ := gcell1 hL6
            go_wp2
            go_meet
            case rel => exact (h6.put 5 (by omega) _).up (by omega)
          have h16 := hcut
          clear hcut h15
          obtain ⟨y, kB⟩ := h16.kB
          obtain ⟨e2, f2, l2⟩ := kB.cells
          go_wp2
          all_goals (go_roundw; (case rel => (first | exact ⟨m, q, A7, c7, by go_num, by omega, by omega, h16.up (by omega)⟩ | exact ⟨m, q, A7, c7, by go_num, by omega, by omega, (h16.put 5 (by omega) _).up (by omega)⟩)); (case measure => (first | (simp [intOf]; done) | (simp [intOf]; omega))))
    · obtain rfl : m = 0 := by omega
      have hR := hP.rd
      go_upto_if 81 with (go_at_call 100; (refine pick11_mono (N := ?_) ?_ ?_ ?_); (rotate_left); (focus (exact (by repeat' (first | with_reducible assumption | with_reducible refine Rdr.a ?_ _ | with_reducible refine Rdr.d ?_ | with_reducible refine Rdr.s1 ?_ (by omega) _ _ | with_reducible refine Rdr.b ?_ (by with_reducible assumption))))); (focus omega); intro v1 w4 hv0 hv1 hg1 hr1; obtain ⟨hc, hf⟩ := gcell1 hg1; (try simp only [World.size_drew] at hc hf); have hz := hg1.size; (try simp only [World.size_setCell, World.size_alloc, World.size_drew] at hz); (try have hv2 := pk_lt hv1 (by omega)); skip)
      have h4 := hP.go hg1 hr1
      clear hP hc hf hz hg1 hr1 hR
      go_cut [] (fun wc => ∃ (xs : List LL.Box) (A : Option Addr) (c : Nat), xs.length ≤ 40 ∧ TSt w g w.heap.size (w.heap.size + 1) b s A c xs (N + 12000) wc)
      case first =>
        by_cases hv0' : v1 = 0
        · subst hv0'
          have hlt9 := h4.lt
          go_wp2
          go_loopw [] (fun wr => ∃ (xs : List LL.Box) (A : Option Addr) (c : Nat), xs.length ≤ 40 ∧ TSt w g w.heap.size (w.heap.size + 1) b s A c xs (N + 1000 + 250 * (xs.length)) wr) (fun wr => 42 - lenOf (wr.cell? ⟨w.heap.size + 1, 1, none⟩))
          case atStart => exact ⟨xs, A, c, by omega, h4.up (by omega)⟩
          case round =>
            obtain ⟨xs, A, c, hx, h5⟩ := hrel
            clear h4
            have m5 := h5.kT.cells.1 1
            obtain ⟨e1, f1, l1⟩ := h5.kT.cells
            have nT : w.heap.size + 1 ≠ g := by omega
            go_wp2
            refine rel2_tail_b 6 [(4, IsPick 2, NoFact)] h5.rd (by kernel_rfl) (by kernel_rfl) ?_
            simp only [List.take_succ_cons, List.take_zero, List.drop_succ_cons, List.drop_zero]
            iterate 4 ((apply rel2_plain (hR := rfl) (hF := fun _ => trivial) (hg := rfl)); (focus ((intro w' hL'); (obtain ⟨hcS, hfS⟩ := gcell1 hL'); (go_simp); (try go_bits); (try (first | (rw [if_pos (by omega)]; done) | (rw [if_neg (by omega)]; done) | (rw [if_pos (by omega)]; go_simp) | (rw [if_neg (by omega)]; go_simp))); (first | with_reducible rfl | exact rfl | skip))); (simp only [Act.put, List.setIfInBounds_toArray, List.set_cons_zero, List.set_cons_succ]))
            ((apply rel2_told (hR := rfl) (hg := rfl)); (focus ((refine ⟨.int .i64 0, ?_⟩); ((repeat (first | (refine Tell2.hits rfl ?_) | (refine Tell2.skips rfl ?_))); exact ⟨0, rfl, Int.le_refl _, .inr rfl⟩))); (focus ((intro w' M hL' hR' hM' hD'); (obtain ⟨hcS, hfS⟩ := gcell1 hL'); skip; (go_simp); (try go_bits); (try (first | (rw [if_pos (by omega)]; done) | (rw [if_neg (by omega)]; done) | (rw [if_pos (by omega)]; go_simp) | (rw [if_neg (by omega)]; go_simp))); ((go_at_call 100); (refine (spec_pick11_c _ M _ _ hR' (by omega)).mono ?_); (rintro e w'' ⟨vp, rfl, h0, h1, hg, hr⟩); (refine ⟨_, rfl, hg, ?_, hr⟩); ((repeat (first | (refine Tell2.hit rfl ?_) | (refine Tell2.skip rfl ?_))); exact ⟨⟨vp, rfl, h0, h1⟩, trivial⟩)))); (intro v' hv'); (replace hv' := Tell2.outs hv' rfl); (obtain ⟨v1, rfl, hv0, hv1⟩ := hv'); (simp only [Act.put, List.setIfInBounds_toArray, List.set_cons_zero, List.set_cons_succ]))
            ((apply rel2_plain (hR := rfl) (hF := fun _ => trivial) (hg := rfl)); (focus ((intro w' hL'); (obtain ⟨hcS, hfS⟩ := gcell1 hL'); (go_simp); (try go_bits); (try (first | (rw [if_pos (by omega)]; done) | (rw [if_neg (by omega)]; done) | (rw [if_pos (by omega)]; go_simp) | (rw [if_neg (by omega)]; go_simp))); (first | with_reducible rfl | exact rfl | skip))); (simp only [Act.put, List.setIfInBounds_toArray, List.set_cons_zero, List.set_cons_succ]))
            refine rel2_nil ?_
            intro w6 hL6 hR6 hF6
            clear hF6
            have h6 := h5.go hL6 hR6
            obtain ⟨hc, hf⟩ := gcell1 hL6
            by_cases hlm : ((xs.length : Int) < 40 - v1)
            · go_upto_region 21 with fail
              clear e1 f1 l1 hc hf
              obtain ⟨e1, f1, l1⟩ := h6.kT.cells
              have hlt6 := h6.lt
              have n5 : xs.length ≤ 39 := by omega
              refine rel3_tail_b 5 [(3, IsBox, NoFact), (4, IsArr 1, BoxIn g 36)] h6.rd (by kernel_rfl) (by kernel_rfl) ?_
              simp only [List.take_succ_cons, List.take_zero, List.drop_succ_cons, List.drop_zero]
              iterate 3 ((apply rel3_plain (hR := rfl) (hF := fun _ => trivial) (hg := rfl)); (focus ((intro w' hL'); (obtain ⟨hcS, hfS⟩ := gcell1 hL'); (go_simp); (try go_bits); (try (first | (rw [if_pos (by omega)]; done) | (rw [if_neg (by omega)]; done) | (rw [if_pos (by omega)]; go_simp) | (rw [if_neg (by omega)]; go_simp))); (first | with_reducible rfl | exact rfl | skip))); (simp only [Act.put, List.setIfInBounds_toArray, List.set_cons_zero, List.set_cons_succ]))
              ((apply rel3_told (hR := rfl) (hg := rfl)); (focus ((refine ⟨.agg #[.int .i64 0, .int .i64 0, .int .i64 0, .int .i64 0, .int .i64 0, .int .i64 0], ?_⟩); ((repeat (first | (refine Tell2.hits rfl ?_) | (refine Tell2.skips rfl ?_))); exact ⟨⟨0, 0, 0, 0, 0, 0⟩, rfl⟩))); (focus ((intro w' M hL' hR' hM' hD'); (obtain ⟨hcS, hfS⟩ := gcell1 hL'); skip; (go_simp); (try go_bits); (try (first | (rw [if_pos (by omega)]; done) | (rw [if_neg (by omega)]; done) | (rw [if_pos (by omega)]; go_simp) | (rw [if_neg (by omega)]; go_simp))); ((go_at_call 110); (refine (spec_l11DrawBox_c _ M _ hR' (by omega)).mono ?_); (rintro e w'' ⟨xb, rfl, hg, hr⟩); (refine ⟨_, rfl, hg, ?_, hr.up (by omega)⟩); ((repeat (first | (refine Tell2.hit rfl ?_) | (refine Tell2.skip rfl ?_))); exact ⟨⟨xb, rfl⟩, trivial⟩)))); (intro v' hv'); (replace hv' := Tell2.outs hv' rfl); (obtain ⟨xb, rfl⟩ := hv'); (simp only [Act.put, List.setIfInBounds_toArray, List.set_cons_zero, List.set_cons_succ]))
              ((apply rel3_told (hR := rfl) (hg := rfl)); (focus ((refine ⟨.slice (some ⟨0, 0, none⟩) 1 1, ?_⟩); ((repeat (first | (refine Tell2.hits rfl ?_) | (refine Tell2.skips rfl ?_))); exact ⟨0, rfl⟩))); (focus ((intro w' M hL' hR' hM' hD'); (obtain ⟨hcS, hfS⟩ := gcell1 hL'); skip; (go_simp); (try go_bits); (try (first | (rw [if_pos (by omega)]; done) | (rw [if_neg (by omega)]; done) | (rw [if_pos (by omega)]; go_simp) | (rw [if_neg (by omega)]; go_simp))); (refine ⟨gr_alloc (GrownS.refl _ _) _, ?_, (hR'.a _).up (by omega)⟩; ((repeat (first | (refine Tell2.hit rfl ?_) | (refine Tell2.skip rfl ?_))); exact ⟨⟨_, rfl⟩, ⟨_, _, rfl, Blk.new _ _ _, by have := hL'.size; omega⟩⟩)))); (intro v' hv'); (replace hv' := Tell2.outs hv' rfl); (obtain ⟨ba, rfl⟩ := hv'); (simp only [Act.put, List.setIfInBounds_toArray, List.set_cons_zero, List.set_cons_succ]))
              refine rel3_nil ?_
              intro w7 hL7 hR7 hF7
              obtain ⟨wk0, hlk0, b', y, hb', kY, hne⟩ := Known2.out (hF7 4) rfl
              injection hb' with hb'
              injection hb' with hb'
              injection hb' with hb'
              subst hb'
              have kY7 := kY.g1 hlk0 hne
              clear hF7 hlk0 kY
              have h7 := h6.go hL7 hR7
              go_wp2_with (at_builtin; go_loud (refine wp_app (bytes := 48) (e := 36) rfl _ _ _ rfl boxE (.agg (boxC LL.b0).toArray) Try.underlying23 (by kernel_rfl) rfl (by decide) (v := .slice A xs.length c) rfl h7.row rfl (Rd.one (x := y) kY7 rfl (by decide)) (by omega) ?_); intro v7 w8 hO8 hg8 hat8; have hql : (xs ++ [y]).length = xs.length + 1 := List.length_append ..; generalize xs ++ [y] = q at hO8 hql; obtain ⟨A7, c7, e9, -⟩ := hO8.rd boxE; subst e9; have kT8 := h7.kT.grown hg8 h7.neT; obtain ⟨e8, f8, l8⟩ := kT8.cells)
              have h8 := h7.app0 hO8 hg8 hat8
              have m9 := h8.kT.cells.1 1
              rw [hql] at h8
              go_roundw
              case rel => exact ⟨q, A7, c7, by omega, h8.up (by omega)⟩
              case measure =>
                rw [hql] at m9
                rw [m9, m5]
                simp [lenOf]
                omega
            · go_wp2
              go_meet
              case rel => exact ⟨xs, A, c, hx, h6.up (by omega)⟩
        · have hb0 : (v1 == 0) = false := by simp [hv0']
          go_wp2
          go_meet
          case rel => exact ⟨xs, A, c, by omega, h4.up (by omega)⟩
      obtain ⟨xs, A, c, hx, h5⟩ := hcut
      clear h4
      obtain ⟨e1, f1, l1⟩ := h5.kT.cells
      obtain ⟨e0, f0, l0⟩ := h5.kR.cells
      have hO := h5.row
      have hfr := h5.fr
      have nR := h5.neR
      have hG := h5.gr
      have hR := h5.rd
      replace hfr := Lib.hid hfr
      replace nR := Lib.hid nR
      go_wp2
      (refine bodyPost_ret (res_c rfl _ [.string s, .slice A xs.length c] rfl _ Try.underlying25 rfl (by kernel_rfl) (by simp only [CellsAt, and_true]; and_intros <;> go_simp)) rfl ?_)
      have nR' : ∀ j, (Value.slice A xs.length c).ownBlock = some j → j ≠ w.heap.size := fun j hj e => nR.out (by rw [hj, e])
      refine ⟨xs, A, c, rfl, hx, ?_, fun j hj => (hfr.out j hj).1, (by repeat' (first | with_reducible exact GrownS.refl _ _ | with_reducible assumption | with_reducible refine gr_alloc ?_ _ | with_reducible refine gr_drew ?_ | with_reducible refine gr_s1 ?_ (by omega) _ _ | with_reducible refine GrownS.trans ?_ (by with_reducible assumption) | with_reducible refine gr_b ?_ (by with_reducible assumption))), Rdr.up (N := N + 12000) (by repeat' (first | with_reducible assumption | with_reducible refine Rdr.a ?_ _ | with_reducible refine Rdr.d ?_ | with_reducible refine Rdr.s1 ?_ (by omega) _ _ | with_reducible refine Rdr.b ?_ (by with_reducible assumption))) (by omega)⟩
      exact (by repeat' (first | with_reducible assumption | with_reducible refine Own.s ?_ _ (fun k hk => by have := nR' k hk; (try simp only); omega) | with_reducible refine Own.a ?_ _ | with_reducible refine Own.d ?_ | with_reducible refine Own.dN ?_ _ | with_reducible refine Own.b ?_ (by with_reducible assumption)))
end Go.Proofs.Ytpeojnknfonmlaa
