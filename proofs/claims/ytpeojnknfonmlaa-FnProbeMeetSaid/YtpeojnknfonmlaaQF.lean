/- What is drawn: a tube spoilt, any tube, two tubes. -/
import Derived.Test.YtpeojnknfonmlaaQE
import Derived.Test.YtpeojnknfonmlaaJ5
set_option linter.unusedVariables false
set_option linter.unusedSimpArgs false
namespace Go.Proofs.Ytpeojnknfonmlaa
open Go.RowKit
theorem of3 {a b c : ByteArray} (ha : a.size ≤ 64) (hb : b.size ≤ 64) (hc : c.size ≤ 64) : ∀ i, i < 3 → ∃ s : ByteArray, (#[Value.string a, .string b, .string c] : Array Value)[i]? = some (.string s) ∧ s.size ≤ 64
  | 0, _ => ⟨a, rfl, ha⟩
  | 1, _ => ⟨b, rfl, hb⟩
  | 2, _ => ⟨c, rfl, hc⟩
theorem of4 {a b c d : ByteArray} (ha : a.size ≤ 64) (hb : b.size ≤ 64) (hc : c.size ≤ 64) (hd : d.size ≤ 64) : ∀ i, i < 4 → ∃ s : ByteArray, (#[Value.string a, .string b, .string c, .string d] : Array Value)[i]? = some (.string s) ∧ s.size ≤ 64
  | 0, _ => ⟨a, rfl, ha⟩
  | 1, _ => ⟨b, rfl, hb⟩
  | 2, _ => ⟨c, rfl, hc⟩
  | 3, _ => ⟨d, rfl, hd⟩
/-- a tube that is being spoilt stands in block T -/
structure XSt (w : World) (g R T : Nat) (s : ByteArray) (A : Option Addr) (c : Nat) (xs : List LL.Box) (N : Nat) (W : World) : Prop where
  gr : GrownS w W (fun k => k = g)
  rd : Rdr 116 W g N
  kR : Blk W R #[.string ⟨#[]⟩, .slice none 0 0] 25
  kT : Blk W T #[.string s, .slice A xs.length c] 25
  row : Own boxC 6 48 36 W (.slice A xs.length c) xs
  fr : ∀ j, (Value.slice A xs.length c).ownBlock = some j → w.heap.size ≤ j
  lt : g < w.heap.size ∧ w.heap.size ≤ R ∧ w.heap.size ≤ T ∧ R ≠ T
section
variable {w W W' : World} {g R T N M c d : Nat} {s : ByteArray} {A B : Option Addr} {xs ys : List LL.Box}
theorem XSt.go (h : XSt w g R T s A c xs N W) (hg : GrownS W W' (fun k => k = g)) (hr : Rdr 116 W' g M) : XSt w g R T s A c xs M W' := by
  have := h.lt
  exact ⟨h.gr.trans hg, hr, h.kR.g1 hg (by omega), h.kT.g1 hg (by omega), h.row.g1 hg h.fr (by omega), h.fr, h.lt⟩
theorem XSt.up (h : XSt w g R T s A c xs N W) (hM : N ≤ M) : XSt w g R T s A c xs M W := { h with rd := h.rd.up hM }
theorem XSt.al (h : XSt w g R T s A c xs N W) (o : Obj) : XSt w g R T s A c xs N (W.alloc o) := by
  exact ⟨gr_alloc h.gr o, h.rd.a o, h.kR.a o, h.kT.a o, h.row.a o, h.fr, h.lt⟩
theorem XSt.dr (h : XSt w g R T s A c xs N W) : XSt w g R T s A c xs N W.drew := by
  exact ⟨gr_drew h.gr, h.rd.d, h.kR.d, h.kT.d, h.row.d, h.fr, h.lt⟩
theorem XSt.neR (h : XSt w g R T s A c xs N W) : (Value.slice A xs.length c).ownBlock ≠ some R := fun e => h.row.neB2 h.kR (by decide) _ e rfl
theorem XSt.neT (h : XSt w g R T s A c xs N W) : (Value.slice A xs.length c).ownBlock ≠ some T := fun e => h.row.neB2 h.kT (by decide) _ e rfl
/-- a box more -/
theorem XSt.app0 (h : XSt w g R T s A c xs N W) (hO : Own boxC 6 48 36 W' (.slice B ys.length d) ys) (hg : W.grownBy W' (Value.slice A xs.length c).ownBlock) (ha : (Value.slice B ys.length d).ownBlock = (Value.slice A xs.length c).ownBlock ∨ (Value.slice B ys.length d).ownBlock = some W.heap.size) : XSt w g R T s B d ys N (W'.setCell ⟨T, 1, none⟩ (.slice B ys.length d)) := by
  have h0 := h
  have h1 := h.lt
  have n1 := h.neR
  have n2 := h.neT
  have lT := blk_lt h0.kT.at_
  have hz := h0.gr.size
  have hv : ∀ j, (Value.slice B ys.length d).ownBlock = some j → w.heap.size ≤ j ∧ j ≠ T := fun j hj => by
    rcases ha with e | e
    · rw [e] at hj; exact ⟨h.fr j hj, fun e2 => n2 (by rw [hj, e2])⟩
    · rw [e] at hj; cases hj; exact ⟨by omega, by omega⟩
  exact ⟨gr_s1 (gr_gb h0.gr hg h.fr) (by omega) 1 _, (h0.rd.gS (GrownS.of hg) (fun j e => by have := h.fr j e; omega)).s1 (by omega) 1 _, (h0.kR.grown hg n1).s (by simp only [ne_eq]; omega) _, (h0.kT.grown hg n2).put 1 _, hO.s _ (fun j hj => (hv j hj).2), fun j hj => (hv j hj).1, h1⟩
/-- a box more, after its row was made -/
theorem XSt.app {o : Obj} (h : XSt w g R T s A c xs N W) (hO : Own boxC 6 48 36 W' (.slice B ys.length d) ys) (hg : (W.alloc o).grownBy W' (Value.slice A xs.length c).ownBlock) (ha : (Value.slice B ys.length d).ownBlock = (Value.slice A xs.length c).ownBlock ∨ (Value.slice B ys.length d).ownBlock = some (W.alloc o).heap.size) : XSt w g R T s B d ys N (W'.setCell ⟨T, 1, none⟩ (.slice B ys.length d)) := (h.al o).app0 hO hg ha
theorem XSt.bl (h : XSt w g R T s A c xs N W) (hb : Below W.heap.size W W') : XSt w g R T s A c xs N W' :=
  ⟨gr_b h.gr hb, h.rd.b hb, h.kR.b hb, h.kT.b hb, h.row.b hb, h.fr, h.lt⟩
/-- another name -/
theorem XSt.name (h : XSt w g R T s A c xs N W) (u : ByteArray) : XSt w g R T u A c xs N (W.setCell ⟨T, 0, none⟩ (.string u)) := by
  have h1 := h.lt
  exact ⟨gr_s1 h.gr (by omega) 0 _, h.rd.s1 (by omega) 0 _, h.kR.s (by simp only [ne_eq]; omega) _, by simpa using h.kT.put 0 (.string u), h.row.s _ (h.row.neB2 h.kT (by decide)), h.fr, h.lt⟩
/-- another box -/
theorem XSt.box {a k : Nat} (h : XSt w g R T s (some ⟨a, 0, none⟩) c xs N W) (hk : k < xs.length) (y : LL.Box) : XSt w g R T s (some ⟨a, 0, none⟩) c (xs.set k y) N ((((((W.setCell ⟨a, k * 6, none⟩ (.int .i64 y.x)).setCell ⟨a, k * 6 + 1, none⟩ (.int .i64 y.y)).setCell ⟨a, k * 6 + 2, none⟩ (.int .i64 y.lo)).setCell ⟨a, k * 6 + 3, none⟩ (.int .i64 y.hi)).setCell ⟨a, k * 6 + 4, none⟩ (.int .i64 y.i)).setCell ⟨a, k * 6 + 5, none⟩ (.int .i64 y.o)) := by
  have h1 := h.lt
  have n1 := h.row.neB2 h.kT (by decide) a rfl
  have n2 := h.row.neB2 h.kR (by decide) a rfl
  have n3 := h.fr a rfl
  have hr := (h.row.setAll boxE rfl k hk LL.b0 y).1
  have hlen : (xs.set k y).length = xs.length := List.length_set ..
  refine ⟨gr_s1 (gr_s1 (gr_s1 (gr_s1 (gr_s1 (gr_s1 h.gr n3 _ _) n3 _ _) n3 _ _) n3 _ _) n3 _ _) n3 _ _, (((((h.rd.s1 (by omega) _ _).s1 (by omega) _ _).s1 (by omega) _ _).s1 (by omega) _ _).s1 (by omega) _ _).s1 (by omega) _ _, ?_, ?_, ?_, ?_, h.lt⟩
  · exact (((((h.kR.s (by simp only [ne_eq]; omega) _).s (by simp only [ne_eq]; omega) _).s (by simp only [ne_eq]; omega) _).s (by simp only [ne_eq]; omega) _).s (by simp only [ne_eq]; omega) _).s (by simp only [ne_eq]; omega) _
  · rw [hlen]
    exact (((((h.kT.s (by simp only [ne_eq]; omega) _).s (by simp only [ne_eq]; omega) _).s (by simp only [ne_eq]; omega) _).s (by simp only [ne_eq]; omega) _).s (by simp only [ne_eq]; omega) _).s (by simp only [ne_eq]; omega) _
  · rw [hlen]
    simpa [World.setCells, boxC] using hr
  · rw [hlen]; exact h.fr
end
set_option maxRecDepth 100000 in
set_option maxHeartbeats 8000000 in
theorem spec_l12SpoilTube_c (g N : Nat) (s : ByteArray) (xs : List LL.Box) (A : Option Addr) (c : Nat) (w : World) (hr : Rdr 116 w g N) (hN : N ≤ 200000) (hs : s.size ≤ 64) (hx : xs.length ≤ 40) (h : RdB w A xs.length c xs) : Calls Try.prog 101 #[.pointer (some ⟨g, 0, none⟩), .agg #[.string s, .slice A xs.length c]] w fun e w' => ∃ (s : ByteArray) (xs : List LL.Box) (A : Option Addr) (c : Nat), e = .returned (.agg #[.string s, .slice A xs.length c]) ∧ s.size ≤ 64 ∧ xs.length ≤ 60 ∧ Own boxC 6 48 36 w' (.slice A xs.length c) xs ∧ (∀ j, (Value.slice A xs.length c).ownBlock = some j → w.heap.size ≤ j) ∧ GrownS w w' (fun k => k = g) ∧ Rdr 116 w' g (N + 20000) := by
  have hlt := hr.lt
  go_enter Try.func101, Try.ntmps101
  go_upto_region 2 with (go_at_call 111; go_loud (refine (spec_l12Copy_c s xs A c _ (by exact Rd.mono (by with_reducible assumption) (by repeat' (first | with_reducible exact Below.refl _ _ | with_reducible assumption | with_reducible refine b_alloc ?_ _ | with_reducible refine b_drewN ?_ _ | with_reducible refine b_drew ?_ | with_reducible refine b_set ?_ (by first | (simp only [World.size_setCell, World.size_alloc, World.size_drew]; omega) | (simp; done) | (simp; omega)) _ | with_reducible refine b_step ?_ (by with_reducible assumption))))).mono ?_); rintro e w2 ⟨A2, c2, rfl, hO2, hOg2, hB2⟩; have hz := hB2.size; (try simp only [World.size_setCell, World.size_alloc, World.size_drew] at hz hOg2))
  have hP0 : XSt w g (w.heap.size + 1) w2.heap.size s A2 c2 xs N (w2.alloc (.cells #[.string s, .slice A2 xs.length c2] 25)) :=
    ⟨gr_alloc (gr_b (gr_alloc (gr_alloc (GrownS.refl _ _) _) _) hB2) _, (by repeat' (first | with_reducible assumption | with_reducible refine Rdr.a ?_ _ | with_reducible refine Rdr.d ?_ | with_reducible refine Rdr.s1 ?_ (by omega) _ _ | with_reducible refine Rdr.b ?_ (by with_reducible assumption))), (by repeat' (first | with_reducible assumption | with_reducible exact Blk.new _ _ _ | with_reducible exact Blk.new' _ _ (by first | (simp only [World.size_alloc, World.size_setCell, World.size_drew]; done) | (simp only [World.size_alloc, World.size_setCell, World.size_drew]; omega) | omega) | with_reducible refine Blk.a ?_ _ | with_reducible refine Blk.d ?_ | with_reducible refine Blk.dN ?_ _ | with_reducible refine Blk.s ?_ (by simp only [ne_eq]; omega) _ | with_reducible refine Blk.b ?_ (by with_reducible assumption))), Blk.new _ _ _, hO2.a _, fun j hj => by have := hOg2 j hj; omega, by omega⟩
  refine wp_name (fun W => XSt w g (w.heap.size + 1) w2.heap.size s A2 c2 xs N W) hP0 ?_
  clear hO2 hOg2 hB2 hP0
  rintro W hP
  generalize w2.heap.size = T at *
  have hR := hP.rd
  go_upto_block 0 with (go_at_call 100; (refine pick11_mono (N := ?_) ?_ ?_ ?_); (rotate_left); (focus (exact (by repeat' (first | with_reducible assumption | with_reducible refine Rdr.a ?_ _ | with_reducible refine Rdr.d ?_ | with_reducible refine Rdr.s1 ?_ (by omega) _ _ | with_reducible refine Rdr.b ?_ (by with_reducible assumption))))); (focus omega); intro v1 w3 hv0 hv1 hg1 hr1; obtain ⟨hc, hf⟩ := gcell1 hg1; (try simp only [World.size_drew] at hc hf); have hz := hg1.size; (try simp only [World.size_setCell, World.size_alloc, World.size_drew] at hz); (try have hv2 := pk_lt hv1 (by omega)); skip)
  have hP4 := hP.go hg1 hr1
  clear hg1 hr1 hc hf hP hR
  go_cut [] (fun wc => ∃ (s : ByteArray) (xs : List LL.Box) (A : Option Addr) (c : Nat), s.size ≤ 64 ∧ xs.length ≤ 60 ∧ XSt w g (w.heap.size + 1) T s A c xs (N + 19000) wc)
  case first =>
    have hR := hP4.rd
    have lT := blk_lt hP4.kT.at_
    have n3 : w3.heap.size ≠ g := by have := hR.lt; omega
    by_cases h0 : v1 = 0
    · subst h0
      go_wp2_with (first | ((go_at_call 100; (refine pick11_mono (N := ?_) ?_ ?_ ?_); (rotate_left); (focus (exact (by repeat' (first | with_reducible assumption | with_reducible refine Rdr.a ?_ _ | with_reducible refine Rdr.d ?_ | with_reducible refine Rdr.s1 ?_ (by omega) _ _ | with_reducible refine Rdr.b ?_ (by with_reducible assumption))))); (focus omega); intro v1 w5 hv0 hv1 hg1 hr1; obtain ⟨hc, hf⟩ := gcell1 hg1; (try simp only [World.size_drew] at hc hf); have hz := hg1.size; (try simp only [World.size_setCell, World.size_alloc, World.size_drew] at hz); (try have hv2 := pk_lt hv1 (by omega)); have yw5_0 : T < w5.heap.size := (by omega)); have h5 := hP4.go hg1 hr1) | (go_at_call 112; (refine (spec_l11Many_c _ _ _ (by decide) (by omega) (by omega)).mono ?_); rintro e w6 ⟨sn, rfl, hsn, hB6⟩; have hz6 := hB6.size) | (go_at_call 99; (refine of11_mono (N := N + 1 + 1) (t := 9) (by repeat' (first | with_reducible assumption | with_reducible refine Rdr.a ?_ _ | with_reducible refine Rdr.d ?_ | with_reducible refine Rdr.s1 ?_ (by omega) _ _ | with_reducible refine Rdr.b ?_ (by with_reducible assumption))) (by omega) (Blk.new _ _ _) (by omega) (by omega) (by omega) (of3 (by decide) (by decide) hsn) ?_); intro su w7 hsu hg7 hr7; have h7 := ((h5.bl hB6).al (.cells #[.string ⟨#[]⟩, .string ⟨#[65]⟩, .string sn] 9)).go hg7 hr7; obtain ⟨e7, f7, l7⟩ := h7.kT.cells))
      go_meet
      case rel => exact ⟨su, xs, A2, c2, hsu, by omega, (h7.name su).up (by omega)⟩
    by_cases h1 : v1 = 1
    · subst h1
      go_wp2_with (go_at_call 100; (refine pick11_mono (N := ?_) ?_ ?_ ?_); (rotate_left); (focus (exact (by repeat' (first | with_reducible assumption | with_reducible refine Rdr.a ?_ _ | with_reducible refine Rdr.d ?_ | with_reducible refine Rdr.s1 ?_ (by omega) _ _ | with_reducible refine Rdr.b ?_ (by with_reducible assumption))))); (focus omega); intro v1 w5 hv0 hv1 hg1 hr1; obtain ⟨hc, hf⟩ := gcell1 hg1; (try simp only [World.size_drew] at hc hf); have hz := hg1.size; (try simp only [World.size_setCell, World.size_alloc, World.size_drew] at hz); (try have hv2 := pk_lt hv1 (by omega)); have yw5_0 : T < w5.heap.size := (by omega))
      obtain ⟨n, hn0, hn1, hn⟩ : ∃ n : Nat, 40 ≤ n ∧ n ≤ 41 ∧ (40 : Int) + v1 = n := ⟨(40 + v1).toNat, by omega, by omega, by omega⟩
      rw [hn]
      have h5 := hP4.go hg1 hr1
      clear hP4 hg1 hr1 hc hf hn hR
      go_loopw [] (fun wr => ∃ (xs : List LL.Box) (A : Option Addr) (c : Nat), xs.length ≤ 41 ∧ XSt w g (w.heap.size + 1) T s A c xs (N + 100 + 250 * xs.length) wr) (fun wr => 43 - lenOf (wr.cell? ⟨T, 1, none⟩))
      case atStart => exact ⟨xs, A2, c2, by omega, h5.up (by omega)⟩
      case round =>
        obtain ⟨ys, A, c, hy, h6⟩ := hrel
        clear h5
        have m5 := h6.kT.cells.1 1
        obtain ⟨e1, f1, l1⟩ := h6.kT.cells
        have nT : T ≠ g := by have := h6.lt; omega
        by_cases hlm : ys.length < n
        · go_wp2
          refine rel3_tail_b 5 [(3, IsBox, NoFact), (4, IsArr 1, BoxIn g 36)] h6.rd (by kernel_rfl) (by kernel_rfl) ?_
          simp only [List.take_succ_cons, List.take_zero, List.drop_succ_cons, List.drop_zero]
          iterate 3 ((apply rel3_plain (hR := rfl) (hF := fun _ => trivial) (hg := rfl)); (focus ((intro w' hL'); (obtain ⟨hcS, hfS⟩ := gcell1 hL'); (go_simp); (try go_bits); (try (first | (rw [if_pos (by omega)]; done) | (rw [if_neg (by omega)]; done) | (rw [if_pos (by omega)]; go_simp) | (rw [if_neg (by omega)]; go_simp))); (first | with_reducible rfl | exact rfl | skip))); (simp only [Act.put, List.setIfInBounds_toArray, List.set_cons_zero, List.set_cons_succ]))
          ((apply rel3_told (hR := rfl) (hg := rfl)); (focus ((refine ⟨.agg #[.int .i64 0, .int .i64 0, .int .i64 0, .int .i64 0, .int .i64 0, .int .i64 0], ?_⟩); ((repeat (first | (refine Tell2.hits rfl ?_) | (refine Tell2.skips rfl ?_))); exact ⟨⟨0, 0, 0, 0, 0, 0⟩, rfl⟩))); (focus ((intro w' M hL' hR' hM' hD'); (obtain ⟨hcS, hfS⟩ := gcell1 hL'); skip; (go_simp); (try go_bits); (try (first | (rw [if_pos (by omega)]; done) | (rw [if_neg (by omega)]; done) | (rw [if_pos (by omega)]; go_simp) | (rw [if_neg (by omega)]; go_simp))); ((go_at_call 110); (refine (spec_l11DrawBox_c _ M _ hR' (by omega)).mono ?_); (rintro e w'' ⟨xb, rfl, hg, hr⟩); (refine ⟨_, rfl, hg, ?_, hr.up (by omega)⟩); ((repeat (first | (refine Tell2.hit rfl ?_) | (refine Tell2.skip rfl ?_))); exact ⟨⟨xb, rfl⟩, trivial⟩)))); (intro v' hv'); (replace hv' := Tell2.outs hv' rfl); (obtain ⟨xb, rfl⟩ := hv'); (simp only [Act.put, List.setIfInBounds_toArray, List.set_cons_zero, List.set_cons_succ]))
          ((apply rel3_told (hR := rfl) (hg := rfl)); (focus ((refine ⟨.slice (some ⟨0, 0, none⟩) 1 1, ?_⟩); ((repeat (first | (refine Tell2.hits rfl ?_) | (refine Tell2.skips rfl ?_))); exact ⟨0, rfl⟩))); (focus ((intro w' M hL' hR' hM' hD'); (obtain ⟨hcS, hfS⟩ := gcell1 hL'); skip; (go_simp); (try go_bits); (try (first | (rw [if_pos (by omega)]; done) | (rw [if_neg (by omega)]; done) | (rw [if_pos (by omega)]; go_simp) | (rw [if_neg (by omega)]; go_simp))); (refine ⟨gr_alloc (GrownS.refl _ _) _, ?_, (hR'.a _).up (by omega)⟩; ((repeat (first | (refine Tell2.hit rfl ?_) | (refine Tell2.skip rfl ?_))); exact ⟨⟨_, rfl⟩, ⟨_, _, rfl, Blk.new _ _ _, by have := hL'.size; omega⟩⟩)))); (intro v' hv'); (replace hv' := Tell2.outs hv' rfl); (obtain ⟨ba, rfl⟩ := hv'); (simp only [Act.put, List.setIfInBounds_toArray, List.set_cons_zero, List.set_cons_succ]))
          refine rel3_nil ?_
          intro w7 hL7 hR7 hF7
          obtain ⟨wk0, hlk0, b', y, hb', kY, hne⟩ := Known2.out (hF7 4) rfl
          injection hb' with hb'
          injection hb' with hb'
          injection hb' with hb'
          subst hb'
          have kY7 := kY.g1 hlk0 hne
          clear hF7 hlk0 kY e1 f1 l1
          have h7 := h6.go hL7 hR7
          go_wp2_with (at_builtin; go_loud (refine wp_app (bytes := 48) (e := 36) rfl _ _ _ rfl boxE (.agg (boxC LL.b0).toArray) Try.underlying23 (by kernel_rfl) rfl (by decide) (v := .slice A ys.length c) rfl h7.row rfl (Rd.one (x := y) kY7 rfl (by decide)) (by omega) ?_); intro v7 w8 hO8 hg8 hat8; have hql : (ys ++ [y]).length = ys.length + 1 := List.length_append ..; generalize ys ++ [y] = q at hO8 hql; obtain ⟨A7, c7, e9, -⟩ := hO8.rd boxE; subst e9; have kT8 := h7.kT.grown hg8 h7.neT; obtain ⟨e8, f8, l8⟩ := kT8.cells)
          have h8 := h7.app0 hO8 hg8 hat8
          have m9 := h8.kT.cells.1 1
          rw [hql] at h8
          go_roundw
          case rel => exact ⟨q, A7, c7, by omega, h8.up (by omega)⟩
          case measure =>
            rw [hql] at m9
            rw [m9, m5]
            simp [lenOf]
            omega
        · go_wp2
          go_meet
          case rel => exact ⟨s, ys, A, c, hs, by omega, h6.up (by omega)⟩
    · have hb0 : (v1 == 0) = false := by simp [h0]
      have hb1 : (v1 == 1) = false := by simp [h1]
      obtain ⟨e1, f1, l1⟩ := hP4.kT.cells
      have nT : T ≠ g := by have := hP4.lt; omega
      by_cases hpos : (0 : Int) < xs.length
      · go_upto_region 5 with (go_at_call 100; (refine pick11_mono (N := ?_) ?_ ?_ ?_); (rotate_left); (focus (exact (by repeat' (first | with_reducible assumption | with_reducible refine Rdr.a ?_ _ | with_reducible refine Rdr.d ?_ | with_reducible refine Rdr.s1 ?_ (by omega) _ _ | with_reducible refine Rdr.b ?_ (by with_reducible assumption))))); (focus omega); intro v1 w5 hv0 hv1 hg1 hr1; obtain ⟨hc, hf⟩ := gcell1 hg1; (try simp only [World.size_drew] at hc hf); have hz := hg1.size; (try simp only [World.size_setCell, World.size_alloc, World.size_drew] at hz); (try have hv2 := pk_lt hv1 (by omega)); have yw5_0 : T < w5.heap.size := (by omega))
        obtain ⟨k, rfl⟩ : ∃ k : Nat, v1 = k := ⟨v1.toNat, by omega⟩
        have hk : k < xs.length := by omega
        have h5 := hP4.go hg1 hr1
        clear hP4 hg1 hr1 hc hf hR e1 f1 l1
        obtain ⟨a, rfl⟩ := h5.row.someA (by omega)
        obtain ⟨d0, d1, d2, d3, d4, d5⟩ := (h5.row.rd_at' boxE).S6 k hk
        simp only [Nat.zero_add] at d0 d1 d2 d3 d4 d5
        obtain ⟨fa, la⟩ := h5.row.unfrozen (by omega)
        have na : a ≠ g := by have := h5.fr a rfl; omega
        obtain ⟨e1, f1, l1⟩ := h5.kT.cells
        generalize LL.nthB xs k = z at d0 d1 d2 d3 d4 d5
        refine rel3_tail_b 11 [(9, IsBox, NoFact)] h5.rd (by kernel_rfl) (by kernel_rfl) ?_
        simp only [List.take_succ_cons, List.take_zero, List.drop_succ_cons, List.drop_zero]
        iterate 9 ((apply rel3_plain (hR := rfl) (hF := fun _ => trivial) (hg := rfl)); (focus ((intro w' hL'); (obtain ⟨hcS, hfS⟩ := gcell1 hL'); (go_simp); (try go_bits); (try (first | (rw [if_pos (by omega)]; done) | (rw [if_neg (by omega)]; done) | (rw [if_pos (by omega)]; go_simp) | (rw [if_neg (by omega)]; go_simp))); (first | with_reducible rfl | exact rfl | skip))); (simp only [Act.put, List.setIfInBounds_toArray, List.set_cons_zero, List.set_cons_succ]))
        ((apply rel3_told (hR := rfl) (hg := rfl)); (focus ((refine ⟨.agg #[.int .i64 0, .int .i64 0, .int .i64 0, .int .i64 0, .int .i64 0, .int .i64 0], ?_⟩); ((repeat (first | (refine Tell2.hits rfl ?_) | (refine Tell2.skips rfl ?_))); exact ⟨⟨0, 0, 0, 0, 0, 0⟩, rfl⟩))); (focus ((intro w' M hL' hR' hM' hD'); (obtain ⟨hcS, hfS⟩ := gcell1 hL'); skip; (go_simp); (try go_bits); (try (first | (rw [if_pos (by omega)]; done) | (rw [if_neg (by omega)]; done) | (rw [if_pos (by omega)]; go_simp) | (rw [if_neg (by omega)]; go_simp))); ((go_at_call 113); (refine (spec_l11SpoilBox_c _ M z _ hR' (by omega)).mono ?_); (rintro e w'' ⟨xb, rfl, hg, hr⟩); (refine ⟨_, rfl, hg, ?_, hr.up (by omega)⟩); ((repeat (first | (refine Tell2.hit rfl ?_) | (refine Tell2.skip rfl ?_))); exact ⟨⟨xb, rfl⟩, trivial⟩)))); (intro v' hv'); (replace hv' := Tell2.outs hv' rfl); (obtain ⟨xb, rfl⟩ := hv'); (simp only [Act.put, List.setIfInBounds_toArray, List.set_cons_zero, List.set_cons_succ]))
        ((apply rel3_plain (hR := rfl) (hF := fun _ => trivial) (hg := rfl)); (focus ((intro w' hL'); (obtain ⟨hcS, hfS⟩ := gcell1 hL'); (go_simp); (try go_bits); (try (first | (rw [if_pos (by omega)]; done) | (rw [if_neg (by omega)]; done) | (rw [if_pos (by omega)]; go_simp) | (rw [if_neg (by omega)]; go_simp))); (first | with_reducible rfl | exact rfl | skip))); (simp only [Act.put, List.setIfInBounds_toArray, List.set_cons_zero, List.set_cons_succ]))
        refine rel3_nil ?_
        intro w6 hL6 hR6 hF6
        clear hF6
        have h6 := h5.go hL6 hR6
        obtain ⟨hc, hf⟩ := gcell1 hL6
        go_wp2
        go_meet
        case rel => exact ⟨s, xs.set k xb, some ⟨a, 0, none⟩, c2, hs, by rw [List.length_set]; omega, (h6.box hk xb).up (by omega)⟩
      · go_wp2
        go_meet
        case rel => exact ⟨s, xs, A2, c2, hs, by omega, hP4.up (by omega)⟩
  obtain ⟨s', ys, A, c, hs', hy, hP5⟩ := hcut
  clear hP4
  obtain ⟨e1, f1, l1⟩ := hP5.kT.cells
  obtain ⟨e0, f0, l0⟩ := hP5.kR.cells
  have hO := hP5.row
  have hfr := hP5.fr
  have nR := hP5.neR
  have hG := hP5.gr
  have hR := hP5.rd
  replace hfr := Lib.hid hfr
  replace nR := Lib.hid nR
  go_wp2
  (refine bodyPost_ret (res_c rfl _ [.string s', .slice A ys.length c] rfl _ Try.underlying25 rfl (by kernel_rfl) (by simp only [CellsAt, and_true]; and_intros <;> go_simp)) rfl ?_)
  have nR' : ∀ j, (Value.slice A ys.length c).ownBlock = some j → j ≠ w.heap.size + 1 := fun j hj e => nR.out (by rw [hj, e])
  refine ⟨s', ys, A, c, rfl, hs', hy, ?_, hfr.out, (by repeat' (first | with_reducible exact GrownS.refl _ _ | with_reducible assumption | with_reducible refine gr_alloc ?_ _ | with_reducible refine gr_drew ?_ | with_reducible refine gr_s1 ?_ (by omega) _ _ | with_reducible refine GrownS.trans ?_ (by with_reducible assumption) | with_reducible refine gr_b ?_ (by with_reducible assumption))), Rdr.up (N := N + 19000) (by repeat' (first | with_reducible assumption | with_reducible refine Rdr.a ?_ _ | with_reducible refine Rdr.d ?_ | with_reducible refine Rdr.s1 ?_ (by omega) _ _ | with_reducible refine Rdr.b ?_ (by with_reducible assumption))) (by omega)⟩
  exact (by repeat' (first | with_reducible assumption | with_reducible refine Own.s ?_ _ (fun k hk => by have := nR' k hk; (try simp only); omega) | with_reducible refine Own.a ?_ _ | with_reducible refine Own.d ?_ | with_reducible refine Own.dN ?_ _ | with_reducible refine Own.b ?_ (by with_reducible assumption)))
end Go.Proofs.Ytpeojnknfonmlaa
