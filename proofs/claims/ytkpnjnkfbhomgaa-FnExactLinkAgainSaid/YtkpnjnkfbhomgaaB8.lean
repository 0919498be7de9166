/- What was sent to somebody and not answered: LinkAgain of the program and of the reference. -/
import Derived.Test.YtkpnjnkfbhomgaaB7
import Derived.Test.YtkpnjnkfbhomgaaJB
import Derived.Test.YtkpnjnkfbhomgaaJ7
import Derived.Test.YtkpnjnkfbhomgaaJF
set_option linter.unusedVariables false
set_option linter.unusedSimpArgs false
namespace Go.Proofs.Ytkpnjnkfbhomgaa
open Go.RowKit
attribute [local go_sem] w_lt_add w_le_of w_le_add max2_i min2_i
namespace LL
def atDF (hs : List Hd) (n : ByteArray) : Nat → Nat → Int
  | 0, _ => -1
  | f + 1, k => if (nthD hs k).name.toList = n.toList then (k : Int) else atDF hs n f (k + 1)
/-- the place of somebody, -1 if they hold nothing -/
def atD (hs : List Hd) (n : ByteArray) : Int := atDF hs n hs.length 0
theorem atF_m (us : List He) (n : ByteArray) : ∀ f k, atF us n f k = atDF (us.map He.m) n f k
  | 0, _ => rfl
  | f + 1, k => by
    unfold atF atDF
    rw [nthD_m, atF_m us n f (k + 1)]; rfl
theorem atH_m (us : List He) (n : ByteArray) : atH us n = atD (us.map He.m) n := by unfold atH atD; rw [atF_m, List.length_map]
theorem atDF_cases (hs : List Hd) (n : ByteArray) : ∀ f k, (atDF hs n f k = -1 ∧ ∀ i, k ≤ i → i < k + f → (nthD hs i).name.toList ≠ n.toList) ∨ ∃ i, k ≤ i ∧ i < k + f ∧ atDF hs n f k = i ∧ (nthD hs i).name.toList = n.toList ∧ ∀ j, k ≤ j → j < i → (nthD hs j).name.toList ≠ n.toList
  | 0, k => .inl ⟨rfl, fun i h1 h2 => absurd h2 (by omega)⟩
  | f + 1, k => by
    unfold atDF
    split
    · rename_i h; exact .inr ⟨k, Nat.le_refl _, by omega, rfl, h, fun j h1 h2 => absurd h2 (by omega)⟩
    · rename_i h
      rcases atDF_cases hs n f (k + 1) with ⟨h1, h2⟩ | ⟨i, h1, h2, h3, h4, h5⟩
      · refine .inl ⟨h1, fun i h3 h4 => ?_⟩
        rcases Nat.eq_or_lt_of_le h3 with h5 | h5
        · subst h5; exact h
        · exact h2 i h5 (by omega)
      · refine .inr ⟨i, by omega, by omega, h3, h4, fun j h6 h7 => ?_⟩
        rcases Nat.eq_or_lt_of_le h6 with h8 | h8
        · subst h8; exact h
        · exact h5 j h8 h7
theorem atD_cases (hs : List Hd) (n : ByteArray) : atD hs n = -1 ∨ ∃ k : Nat, k < hs.length ∧ atD hs n = k := by
  rcases atDF_cases hs n hs.length 0 with ⟨h, _⟩ | ⟨i, _, h2, h3, _⟩
  · exact .inl h
  · exact .inr ⟨i, by omega, h3⟩
def Again (hs : List Hd) (n : ByteArray) : Prop := 0 ≤ atD hs n ∧ ¬ NoPath (nthD hs (atD hs n).toNat).n
instance (hs : List Hd) (n : ByteArray) : Decidable (Again hs n) := inferInstanceAs (Decidable (_ ∧ _))
def againW (hs : List Hd) (n : ByteArray) : Word := if Again hs n then ⟨2, n, (nthD hs (atD hs n).toNat).sent, (nthD hs (atD hs n).toNat).n⟩ else w0
theorem againW_no {hs : List Hd} {n : ByteArray} (h : ¬ Again hs n) : againW hs n = w0 := if_neg h
theorem againW_yes {hs : List Hd} {n : ByteArray} (h : Again hs n) : againW hs n = ⟨2, n, (nthD hs (atD hs n).toNat).sent, (nthD hs (atD hs n).toNat).n⟩ := if_pos h
theorem wtD_nth (hs : List Hd) : ∀ k : Nat, ((nthD hs k).name.size + (nthD hs k).p.steps.length + (nthD hs k).n.steps.length : Int) ≤ wtD hs := by
  induction hs with
  | nil => intro k; simp [nthD, hd0, wtD]; rfl
  | cons h hs ih =>
    intro k
    have h0 := wtD_nonneg hs
    rw [wtD_cons]
    cases k with
    | zero => simp only [nthD, List.getD_cons_zero]; omega
    | succ k => have := ih k; simp only [nthD, List.getD_cons_succ] at this ⊢; omega
theorem againW_len (hs : List Hd) (n : ByteArray) : ((againW hs n).path.steps.length : Int) ≤ wtD hs := by
  unfold againW
  split
  · have := wtD_nth hs (atD hs n).toNat; simp only; omega
  · exact wtD_nonneg hs
end LL
/-- a call has made a word and a truth -/
def MkWB (w : World) (y : LL.Word) (b : Bool) (en : Ending) (w' : World) : Prop := ∃ B d, en = .returned (.tuple #[.agg #[.int .i64 y.kind, .string y.name, .int .i64 y.number, .int .i64 y.path.q, .int .i64 y.path.s, .slice B y.path.steps.length d, .int .i64 y.path.fr, .int .i64 y.path.by_], .bool b]) ∧ OwnP w' B d y.path ∧ (∀ k, Value.ownBlock (.slice B y.path.steps.length d) = some k → w.heap.size ≤ k) ∧ Below w.heap.size w w'
set_option maxRecDepth 100000 in
set_option maxHeartbeats 4000000 in
theorem impl_LinkAgain_c (last : Int) (us : List LL.He) (hs : List LL.Hd) (n : ByteArray) (A : Option Addr) (c : Nat) (w : World) (h : RdBk w A c us) (he : us.map LL.He.m = hs) : Calls Try.prog 22 #[.agg #[.int .i64 last, .slice A us.length c], .string n] w (MkWB w (LL.againW hs n) (decide (LL.Again hs n))) := by
  have hroom : us.length * 144 ≤ 140737488351232 := h.row.room
  have hH := rdHS h
  go_enter Try.func22, Try.ntmps22
  go_wp2_with fail
  refine calls_name (fun W => Below w.heap.size w W ∧ Blk W w.heap.size #[.int .i64 last, .slice A us.length c] 36 ∧ Blk W (w.heap.size + 1) #[.int .i64 0, .string ⟨#[]⟩, .int .i64 0, .int .i64 0, .int .i64 0, .slice none 0 0, .int .i64 0, .int .i64 0] 46) ⟨(by repeat' (first | with_reducible exact Below.refl _ _ | with_reducible assumption | with_reducible refine b_alloc ?_ _ | with_reducible refine b_drewN ?_ _ | with_reducible refine b_drew ?_ | with_reducible refine b_set ?_ (by first | (simp only [World.size_setCell, World.size_alloc, World.size_drew]; omega) | (simp; done) | (simp; omega)) _ | with_reducible refine b_step ?_ (by with_reducible assumption))), (by repeat' (first | with_reducible assumption | with_reducible exact Blk.new _ _ _ | with_reducible exact Blk.new' _ _ (by first | (simp only [World.size_alloc, World.size_setCell, World.size_drew]; done) | (simp only [World.size_alloc, World.size_setCell, World.size_drew]; omega) | omega) | with_reducible refine Blk.a ?_ _ | with_reducible refine Blk.d ?_ | with_reducible refine Blk.dN ?_ _ | with_reducible refine Blk.s ?_ (by simp only [ne_eq]; omega) _ | with_reducible refine Blk.b ?_ (by with_reducible assumption))), (by repeat' (first | with_reducible assumption | with_reducible exact Blk.new _ _ _ | with_reducible exact Blk.new' _ _ (by first | (simp only [World.size_alloc, World.size_setCell, World.size_drew]; done) | (simp only [World.size_alloc, World.size_setCell, World.size_drew]; omega) | omega) | with_reducible refine Blk.a ?_ _ | with_reducible refine Blk.d ?_ | with_reducible refine Blk.dN ?_ _ | with_reducible refine Blk.s ?_ (by simp only [ne_eq]; omega) _ | with_reducible refine Blk.b ?_ (by with_reducible assumption)))⟩ ?_
  rintro W1 ⟨hb, kB, kR⟩
  refine (impl_at_c last us n A c _ (rdHS (h.mono hb))).mono ?_
  rintro e W2 ⟨rfl, hB⟩
  replace hb := b_step hb hB; replace kB := kB.b hB; replace kR := kR.b hB; clear hB
  rw [LL.atH_m, he]
  rcases LL.atD_cases hs n with h0 | ⟨k, hk, h0⟩
  · have hA : ¬ LL.Again hs n := fun h9 => by have := h9.1; omega
    have HA := Lib.hid hA
    clear hA
    rw [h0]
    obtain ⟨ekB, fkB, lkB⟩ := kB.cells; obtain ⟨ekR, fkR, lkR⟩ := kR.cells
    go_wp2_with fail
    (refine bodyPost_ret (res_ct rfl _ [.int .i64 0, .string ⟨#[]⟩, .int .i64 0, .int .i64 0, .int .i64 0, .slice none 0 0, .int .i64 0, .int .i64 0] rfl _ rfl _ Try.underlying46 rfl (by kernel_rfl) (by simp only [CellsAt, and_true]; and_intros <;> go_simp)) rfl ?_)
    rw [LL.againW_no HA.out, decide_eq_false HA.out]
    exact ⟨none, 0, rfl, OwnP.none _ _ _ _ _, fun k hk => absurd hk own_nil, (by repeat' (first | with_reducible exact Below.refl _ _ | with_reducible assumption | with_reducible refine b_alloc ?_ _ | with_reducible refine b_drewN ?_ _ | with_reducible refine b_drew ?_ | with_reducible refine b_set ?_ (by first | (simp only [World.size_setCell, World.size_alloc, World.size_drew]; omega) | (simp; done) | (simp; omega)) _ | with_reducible refine b_step ?_ (by with_reducible assumption)))⟩
  · have hku : k < us.length := by rw [← he] at hk; simpa using hk
    obtain ⟨b, off, rfl, hbw⟩ := h.row.addr (by omega)
    obtain ⟨c0, c1, c2, c3, c4, c5, c6, c7, c8, c9, c10, c11, c12⟩ := hH.S13 k hku
    have hel := hH.el k hku
    have hm : LL.nthD hs (LL.atD hs n).toNat = (LL.nthH us k).m := by rw [h0, ← he]; exact LL.nthD_m _ _
    have hAg : LL.Again hs n ↔ ¬ LL.NoPath (LL.nthH us k).n := by unfold LL.Again; rw [hm, h0]; exact ⟨fun h9 => h9.2, fun h9 => ⟨by omega, h9⟩⟩
    have hWy : LL.Again hs n → LL.againW hs n = ⟨2, n, (LL.nthH us k).sent, (LL.nthH us k).n⟩ := fun h9 => by rw [LL.againW_yes h9, hm]; rfl
    have HAg := Lib.hid hAg
    have HWy := Lib.hid hWy
    rw [h0]
    have hkd : decide ((k : Int) < 0) = false := by simp
    clear hm hAg hWy h0 hk
    have hkn : k < us.length := hku
    generalize LL.nthH us k = u at *
    obtain ⟨gc, gf, gl⟩ := bcell hb
    obtain ⟨ekB, fkB, lkB⟩ := kB.cells
    go_wp2_with fail
    refine calls_name (fun W => Below W2.heap.size W2 W) (by repeat' (first | with_reducible exact Below.refl _ _ | with_reducible assumption | with_reducible refine b_alloc ?_ _ | with_reducible refine b_drewN ?_ _ | with_reducible refine b_drew ?_ | with_reducible refine b_set ?_ (by first | (simp only [World.size_setCell, World.size_alloc, World.size_drew]; omega) | (simp; done) | (simp; omega)) _ | with_reducible refine b_step ?_ (by with_reducible assumption))) ?_; intro W3 hE; clear ekB fkB lkB; replace hb := b_step hb hE; replace kB := kB.b hE; replace kR := kR.b hE; clear hE
    have hr2 := hel.n.room
    refine (impl_nothing_c u.n u.B u.d (by omega) _).mono ?_
    rintro e W4 ⟨rfl, hB⟩
    (try replace hB : Below W3.heap.size W3 W4 := by first | exact hB | (rw [← hB]; exact Below.refl _ _))
    replace hb := b_step hb hB; replace kB := kB.b hB; replace kR := kR.b hB; clear hB
    clear gc gf gl
    obtain ⟨gc, gf, gl⟩ := bcell hb
    by_cases hN : LL.NoPath u.n
    · have hA : ¬ LL.Again hs n := fun h9 => HAg.out.1 h9 hN
      have HA := Lib.hid hA
      clear hA
      rw [decide_eq_true hN]
      obtain ⟨ekB, fkB, lkB⟩ := kB.cells; obtain ⟨ekR, fkR, lkR⟩ := kR.cells
      go_wp2_with fail
      (refine bodyPost_ret (res_ct rfl _ [.int .i64 0, .string ⟨#[]⟩, .int .i64 0, .int .i64 0, .int .i64 0, .slice none 0 0, .int .i64 0, .int .i64 0] rfl _ rfl _ Try.underlying46 rfl (by kernel_rfl) (by simp only [CellsAt, and_true]; and_intros <;> go_simp)) rfl ?_)
      rw [LL.againW_no HA.out, decide_eq_false HA.out]
      exact ⟨none, 0, rfl, OwnP.none _ _ _ _ _, fun k hk => absurd hk own_nil, (by repeat' (first | with_reducible exact Below.refl _ _ | with_reducible assumption | with_reducible refine b_alloc ?_ _ | with_reducible refine b_drewN ?_ _ | with_reducible refine b_drew ?_ | with_reducible refine b_set ?_ (by first | (simp only [World.size_setCell, World.size_alloc, World.size_drew]; omega) | (simp; done) | (simp; omega)) _ | with_reducible refine b_step ?_ (by with_reducible assumption)))⟩
    · have hA : LL.Again hs n := HAg.out.2 hN
      have HA := Lib.hid hA
      clear hA
      rw [decide_eq_false hN]
      obtain ⟨ekB, fkB, lkB⟩ := kB.cells
      go_wp2_with fail
      refine wp_name (fun W => Below W4.heap.size W4 W ∧ Blk W W4.heap.size #[.string u.name, .int .i64 u.number, .int .i64 u.p.q, .int .i64 u.p.s, .slice u.A u.p.steps.length u.c, .int .i64 u.p.fr, .int .i64 u.p.by_, .int .i64 u.sent, .int .i64 u.n.q, .int .i64 u.n.s, .slice u.B u.n.steps.length u.d, .int .i64 u.n.fr, .int .i64 u.n.by_] 97) ⟨(by repeat' (first | with_reducible exact Below.refl _ _ | with_reducible assumption | with_reducible refine b_alloc ?_ _ | with_reducible refine b_drewN ?_ _ | with_reducible refine b_drew ?_ | with_reducible refine b_set ?_ (by first | (simp only [World.size_setCell, World.size_alloc, World.size_drew]; omega) | (simp; done) | (simp; omega)) _ | with_reducible refine b_step ?_ (by with_reducible assumption))), (by repeat' (first | with_reducible assumption | with_reducible exact Blk.new _ _ _ | with_reducible exact Blk.new' _ _ (by first | (simp only [World.size_alloc, World.size_setCell, World.size_drew]; done) | (simp only [World.size_alloc, World.size_setCell, World.size_drew]; omega) | omega) | with_reducible refine Blk.a ?_ _ | with_reducible refine Blk.d ?_ | with_reducible refine Blk.dN ?_ _ | with_reducible refine Blk.s ?_ (by simp only [ne_eq]; omega) _ | with_reducible refine Blk.b ?_ (by with_reducible assumption)))⟩ ?_
      rintro W5 ⟨hE, kU⟩
      clear ekB fkB lkB
      replace hb := b_step hb hE; replace kB := kB.b hE; replace kR := kR.b hE; clear hE
      obtain ⟨ekU, fkU, lkU⟩ := kU.cells
      clear gc gf gl
      obtain ⟨gc, gf, gl⟩ := bcell hb
      refine rel_tail_b 7 [(5, fun v W => ∃ A9 c9, v = .agg #[.int .i64 u.n.q, .int .i64 u.n.s, .slice A9 u.n.steps.length c9, .int .i64 u.n.fr, .int .i64 u.n.by_] ∧ OwnP W A9 c9 u.n ∧ ∀ j, Value.ownBlock (.slice A9 u.n.steps.length c9) = some j → W5.heap.size ≤ j)] (by kernel_rfl) (by kernel_rfl) ?_
      simp only [List.take_succ_cons, List.take_zero, List.drop_succ_cons, List.drop_zero]
      iterate 5 ((apply rel_plain (hR := rfl) (hF := fun _ => trivial) (hg := rfl)); (focus ((intro w' hL'); (obtain ⟨hcS, hfS, hlS⟩ := bcell hL'); (try simp only [World.size_setCell, World.size_alloc, World.size_drew] at hcS hfS hlS); (go_simp); (try go_bits); (try (first | (rw [if_pos (by omega)]; done) | (rw [if_neg (by omega)]; done) | (rw [if_pos (by omega)]; go_simp) | (rw [if_neg (by omega)]; go_simp))); (first | with_reducible rfl | exact rfl | skip))); (simp only [Act.put, List.setIfInBounds_toArray, List.set_cons_zero, List.set_cons_succ]))
      ((apply rel_told (hR := rfl) (hg := rfl)); (focus ((intro w' hL' hD'); (obtain ⟨hcS, hfS, hlS⟩ := bcell hL'); (try simp only [World.size_setCell, World.size_alloc, World.size_drew] at hcS hfS hlS); (go_simp); (try go_bits); (try (first | (rw [if_pos (by omega)]; done) | (rw [if_neg (by omega)]; done) | (rw [if_pos (by omega)]; go_simp) | (rw [if_neg (by omega)]; go_simp))); ((go_at_call 70); (refine (impl_copyPath_c u.n u.B u.d _ (hel.n.mono (b_step hb hL'))).mono ?_); (intro e w'' hM); (obtain ⟨A2, c2, rfl, hO2, hOg2, hB⟩ := hM.gop); (refine ⟨_, rfl, hB, ?_⟩); ((repeat (first | (refine Tell.hit rfl ?_) | (refine Tell.skip rfl ?_))); exact ⟨A2, c2, rfl, hO2, fun j hj => by have := hL'.size; have := hOg2 j hj; omega⟩)))); (intro v' w0' hv'); (replace hv' := Tell.out hv' rfl); (obtain ⟨A2, c2, rfl, -⟩ := hv'); (simp only [Act.put, List.setIfInBounds_toArray, List.set_cons_zero, List.set_cons_succ]))
      ((apply rel_plain (hR := rfl) (hF := fun _ => trivial) (hg := rfl)); (focus ((intro w' hL'); (obtain ⟨hcS, hfS, hlS⟩ := bcell hL'); (try simp only [World.size_setCell, World.size_alloc, World.size_drew] at hcS hfS hlS); (go_simp); (try go_bits); (try (first | (rw [if_pos (by omega)]; done) | (rw [if_neg (by omega)]; done) | (rw [if_pos (by omega)]; go_simp) | (rw [if_neg (by omega)]; go_simp))); (first | with_reducible rfl | exact rfl | skip))); (simp only [Act.put, List.setIfInBounds_toArray, List.set_cons_zero, List.set_cons_succ]))
      refine rel_nil ?_
      intro W6 hL2 hF2
      obtain ⟨w8, hl8, A8, c8, e8, hO8, hg8⟩ := Known.out (hF2 5) rfl
      simp at e8
      obtain ⟨rfl, rfl⟩ := e8
      have hRl := kR.cells.2.2
      clear ekU fkU lkU
      replace hb := b_step hb hL2; replace kR := kR.b hL2
      have hP := hO8.b hl8
      clear hF2 hl8 hO8 hL2 gc gf gl
      have hPg : ∀ j, Value.ownBlock (.slice A2 u.n.steps.length c2) = some j → w.heap.size + 1 < j := fun j hj => by have := hg8 j hj; omega
      obtain ⟨ekR, fkR, lkR⟩ := kR.cells
      go_wp2_with fail
      (refine bodyPost_ret (res_ct rfl _ [.int .i64 2, .string n, .int .i64 u.sent, .int .i64 u.n.q, .int .i64 u.n.s, .slice A2 u.n.steps.length c2, .int .i64 u.n.fr, .int .i64 u.n.by_] rfl _ rfl _ Try.underlying46 rfl (by kernel_rfl) (by simp only [CellsAt, and_true]; and_intros <;> go_simp)) rfl ?_)
      rw [HWy.out HA.out, decide_eq_true HA.out]
      exact ⟨A2, c2, rfl, (by repeat' (first | with_reducible assumption | with_reducible refine Own.s ?_ _ (fun k hk => by have := hPg k hk; (try simp only); omega) | with_reducible refine Own.a ?_ _ | with_reducible refine Own.d ?_ | with_reducible refine Own.dN ?_ _ | with_reducible refine Own.b ?_ (by with_reducible assumption))), fun k hk => by have := hPg k hk; omega, (by repeat' (first | with_reducible exact Below.refl _ _ | with_reducible assumption | with_reducible refine b_alloc ?_ _ | with_reducible refine b_drewN ?_ _ | with_reducible refine b_drew ?_ | with_reducible refine b_set ?_ (by first | (simp only [World.size_setCell, World.size_alloc, World.size_drew]; omega) | (simp; done) | (simp; omega)) _ | with_reducible refine b_step ?_ (by with_reducible assumption)))⟩
set_option maxRecDepth 100000 in
set_option maxHeartbeats 4000000 in
theorem spec_LinkAgain_c (last : Int) (us : List LL.He) (hs : List LL.Hd) (n : ByteArray) (A : Option Addr) (c : Nat) (w : World) (h : RdBk w A c us) (he : us.map LL.He.m = hs) : Calls Try.prog 21 #[.agg #[.int .i64 last, .slice A us.length c], .string n] w (MkWB w (LL.againW hs n) (decide (LL.Again hs n))) := by
  have hroom : us.length * 144 ≤ 140737488351232 := h.row.room
  have hH := rdHS h
  go_enter Try.func21, Try.ntmps21
  go_wp2_with fail
  refine calls_name (fun W => Below w.heap.size w W ∧ Blk W w.heap.size #[.int .i64 last, .slice A us.length c] 36 ∧ Blk W (w.heap.size + 1) #[.int .i64 0, .string ⟨#[]⟩, .int .i64 0, .int .i64 0, .int .i64 0, .slice none 0 0, .int .i64 0, .int .i64 0] 46) ⟨(by repeat' (first | with_reducible exact Below.refl _ _ | with_reducible assumption | with_reducible refine b_alloc ?_ _ | with_reducible refine b_drewN ?_ _ | with_reducible refine b_drew ?_ | with_reducible refine b_set ?_ (by first | (simp only [World.size_setCell, World.size_alloc, World.size_drew]; omega) | (simp; done) | (simp; omega)) _ | with_reducible refine b_step ?_ (by with_reducible assumption))), (by repeat' (first | with_reducible assumption | with_reducible exact Blk.new _ _ _ | with_reducible exact Blk.new' _ _ (by first | (simp only [World.size_alloc, World.size_setCell, World.size_drew]; done) | (simp only [World.size_alloc, World.size_setCell, World.size_drew]; omega) | omega) | with_reducible refine Blk.a ?_ _ | with_reducible refine Blk.d ?_ | with_reducible refine Blk.dN ?_ _ | with_reducible refine Blk.s ?_ (by simp only [ne_eq]; omega) _ | with_reducible refine Blk.b ?_ (by with_reducible assumption))), (by repeat' (first | with_reducible assumption | with_reducible exact Blk.new _ _ _ | with_reducible exact Blk.new' _ _ (by first | (simp only [World.size_alloc, World.size_setCell, World.size_drew]; done) | (simp only [World.size_alloc, World.size_setCell, World.size_drew]; omega) | omega) | with_reducible refine Blk.a ?_ _ | with_reducible refine Blk.d ?_ | with_reducible refine Blk.dN ?_ _ | with_reducible refine Blk.s ?_ (by simp only [ne_eq]; omega) _ | with_reducible refine Blk.b ?_ (by with_reducible assumption)))⟩ ?_
  rintro W1 ⟨hb, kB, kR⟩
  refine (spec_l23At_c last us n A c _ (rdHS (h.mono hb))).mono ?_
  rintro e W2 ⟨rfl, hB⟩
  replace hb := b_step hb hB; replace kB := kB.b hB; replace kR := kR.b hB; clear hB
  rw [LL.atH_m, he]
  rcases LL.atD_cases hs n with h0 | ⟨k, hk, h0⟩
  · have hA : ¬ LL.Again hs n := fun h9 => by have := h9.1; omega
    have HA := Lib.hid hA
    clear hA
    rw [h0]
    obtain ⟨ekB, fkB, lkB⟩ := kB.cells; obtain ⟨ekR, fkR, lkR⟩ := kR.cells
    go_wp2_with fail
    (refine bodyPost_ret (res_ct rfl _ [.int .i64 0, .string ⟨#[]⟩, .int .i64 0, .int .i64 0, .int .i64 0, .slice none 0 0, .int .i64 0, .int .i64 0] rfl _ rfl _ Try.underlying46 rfl (by kernel_rfl) (by simp only [CellsAt, and_true]; and_intros <;> go_simp)) rfl ?_)
    rw [LL.againW_no HA.out, decide_eq_false HA.out]
    exact ⟨none, 0, rfl, OwnP.none _ _ _ _ _, fun k hk => absurd hk own_nil, (by repeat' (first | with_reducible exact Below.refl _ _ | with_reducible assumption | with_reducible refine b_alloc ?_ _ | with_reducible refine b_drewN ?_ _ | with_reducible refine b_drew ?_ | with_reducible refine b_set ?_ (by first | (simp only [World.size_setCell, World.size_alloc, World.size_drew]; omega) | (simp; done) | (simp; omega)) _ | with_reducible refine b_step ?_ (by with_reducible assumption)))⟩
  · have hku : k < us.length := by rw [← he] at hk; simpa using hk
    obtain ⟨b, off, rfl, hbw⟩ := h.row.addr (by omega)
    obtain ⟨c0, c1, c2, c3, c4, c5, c6, c7, c8, c9, c10, c11, c12⟩ := hH.S13 k hku
    have hel := hH.el k hku
    have hm : LL.nthD hs (LL.atD hs n).toNat = (LL.nthH us k).m := by rw [h0, ← he]; exact LL.nthD_m _ _
    have hAg : LL.Again hs n ↔ ¬ LL.NoPath (LL.nthH us k).n := by unfold LL.Again; rw [hm, h0]; exact ⟨fun h9 => h9.2, fun h9 => ⟨by omega, h9⟩⟩
    have hWy : LL.Again hs n → LL.againW hs n = ⟨2, n, (LL.nthH us k).sent, (LL.nthH us k).n⟩ := fun h9 => by rw [LL.againW_yes h9, hm]; rfl
    have HAg := Lib.hid hAg
    have HWy := Lib.hid hWy
    rw [h0]
    have hkd : decide ((k : Int) < 0) = false := by simp
    clear hm hAg hWy h0 hk
    have hkn : k < us.length := hku
    generalize LL.nthH us k = u at *
    obtain ⟨gc, gf, gl⟩ := bcell hb
    obtain ⟨ekB, fkB, lkB⟩ := kB.cells
    go_wp2_with fail
    refine calls_name (fun W => Below W2.heap.size W2 W) (by repeat' (first | with_reducible exact Below.refl _ _ | with_reducible assumption | with_reducible refine b_alloc ?_ _ | with_reducible refine b_drewN ?_ _ | with_reducible refine b_drew ?_ | with_reducible refine b_set ?_ (by first | (simp only [World.size_setCell, World.size_alloc, World.size_drew]; omega) | (simp; done) | (simp; omega)) _ | with_reducible refine b_step ?_ (by with_reducible assumption))) ?_; intro W3 hE; clear ekB fkB lkB; replace hb := b_step hb hE; replace kB := kB.b hE; replace kR := kR.b hE; clear hE
    have hr2 := hel.n.room
    refine (spec_l21None_c u.n u.B u.d (by omega) _).mono ?_
    rintro e W4 ⟨rfl, hB⟩
    (try replace hB : Below W3.heap.size W3 W4 := by first | exact hB | (rw [← hB]; exact Below.refl _ _))
    replace hb := b_step hb hB; replace kB := kB.b hB; replace kR := kR.b hB; clear hB
    clear gc gf gl
    obtain ⟨gc, gf, gl⟩ := bcell hb
    by_cases hN : LL.NoPath u.n
    · have hA : ¬ LL.Again hs n := fun h9 => HAg.out.1 h9 hN
      have HA := Lib.hid hA
      clear hA
      rw [decide_eq_true hN]
      obtain ⟨ekB, fkB, lkB⟩ := kB.cells; obtain ⟨ekR, fkR, lkR⟩ := kR.cells
      go_wp2_with fail
      (refine bodyPost_ret (res_ct rfl _ [.int .i64 0, .string ⟨#[]⟩, .int .i64 0, .int .i64 0, .int .i64 0, .slice none 0 0, .int .i64 0, .int .i64 0] rfl _ rfl _ Try.underlying46 rfl (by kernel_rfl) (by simp only [CellsAt, and_true]; and_intros <;> go_simp)) rfl ?_)
      rw [LL.againW_no HA.out, decide_eq_false HA.out]
      exact ⟨none, 0, rfl, OwnP.none _ _ _ _ _, fun k hk => absurd hk own_nil, (by repeat' (first | with_reducible exact Below.refl _ _ | with_reducible assumption | with_reducible refine b_alloc ?_ _ | with_reducible refine b_drewN ?_ _ | with_reducible refine b_drew ?_ | with_reducible refine b_set ?_ (by first | (simp only [World.size_setCell, World.size_alloc, World.size_drew]; omega) | (simp; done) | (simp; omega)) _ | with_reducible refine b_step ?_ (by with_reducible assumption)))⟩
    · have hA : LL.Again hs n := HAg.out.2 hN
      have HA := Lib.hid hA
      clear hA
      rw [decide_eq_false hN]
      obtain ⟨ekB, fkB, lkB⟩ := kB.cells
      go_wp2_with fail
      refine wp_name (fun W => Below W4.heap.size W4 W) (by repeat' (first | with_reducible exact Below.refl _ _ | with_reducible assumption | with_reducible refine b_alloc ?_ _ | with_reducible refine b_drewN ?_ _ | with_reducible refine b_drew ?_ | with_reducible refine b_set ?_ (by first | (simp only [World.size_setCell, World.size_alloc, World.size_drew]; omega) | (simp; done) | (simp; omega)) _ | with_reducible refine b_step ?_ (by with_reducible assumption))) ?_; intro W5 hE; clear ekB fkB lkB; replace hb := b_step hb hE; replace kB := kB.b hE; replace kR := kR.b hE; clear hE
      obtain ⟨ekB, fkB, lkB⟩ := kB.cells
      clear gc gf gl
      obtain ⟨gc, gf, gl⟩ := bcell hb
      refine rel_tail_b 15 [(13, fun v W => ∃ A9 c9, v = .agg #[.int .i64 u.n.q, .int .i64 u.n.s, .slice A9 u.n.steps.length c9, .int .i64 u.n.fr, .int .i64 u.n.by_] ∧ OwnP W A9 c9 u.n ∧ ∀ j, Value.ownBlock (.slice A9 u.n.steps.length c9) = some j → W5.heap.size ≤ j)] (by kernel_rfl) (by kernel_rfl) ?_
      simp only [List.take_succ_cons, List.take_zero, List.drop_succ_cons, List.drop_zero]
      iterate 13 ((apply rel_plain (hR := rfl) (hF := fun _ => trivial) (hg := rfl)); (focus ((intro w' hL'); (obtain ⟨hcS, hfS, hlS⟩ := bcell hL'); (try simp only [World.size_setCell, World.size_alloc, World.size_drew] at hcS hfS hlS); (go_simp); (try go_bits); (try (first | (rw [if_pos (by omega)]; done) | (rw [if_neg (by omega)]; done) | (rw [if_pos (by omega)]; go_simp) | (rw [if_neg (by omega)]; go_simp))); (first | with_reducible rfl | exact rfl | skip))); (simp only [Act.put, List.setIfInBounds_toArray, List.set_cons_zero, List.set_cons_succ]))
      ((apply rel_told (hR := rfl) (hg := rfl)); (focus ((intro w' hL' hD'); (obtain ⟨hcS, hfS, hlS⟩ := bcell hL'); (try simp only [World.size_setCell, World.size_alloc, World.size_drew] at hcS hfS hlS); (go_simp); (try go_bits); (try (first | (rw [if_pos (by omega)]; done) | (rw [if_neg (by omega)]; done) | (rw [if_pos (by omega)]; go_simp) | (rw [if_neg (by omega)]; go_simp))); ((go_at_call 68); (refine (spec_l2Copy_c u.n u.B u.d _ (hel.n.mono (b_step hb hL'))).mono ?_); (intro e w'' hM); (obtain ⟨A2, c2, rfl, hO2, hOg2, hB⟩ := hM.gop); (refine ⟨_, rfl, hB, ?_⟩); ((repeat (first | (refine Tell.hit rfl ?_) | (refine Tell.skip rfl ?_))); exact ⟨A2, c2, rfl, hO2, fun j hj => by have := hL'.size; have := hOg2 j hj; omega⟩)))); (intro v' w0' hv'); (replace hv' := Tell.out hv' rfl); (obtain ⟨A2, c2, rfl, -⟩ := hv'); (simp only [Act.put, List.setIfInBounds_toArray, List.set_cons_zero, List.set_cons_succ]))
      ((apply rel_plain (hR := rfl) (hF := fun _ => trivial) (hg := rfl)); (focus ((intro w' hL'); (obtain ⟨hcS, hfS, hlS⟩ := bcell hL'); (try simp only [World.size_setCell, World.size_alloc, World.size_drew] at hcS hfS hlS); (go_simp); (try go_bits); (try (first | (rw [if_pos (by omega)]; done) | (rw [if_neg (by omega)]; done) | (rw [if_pos (by omega)]; go_simp) | (rw [if_neg (by omega)]; go_simp))); (first | with_reducible rfl | exact rfl | skip))); (simp only [Act.put, List.setIfInBounds_toArray, List.set_cons_zero, List.set_cons_succ]))
      refine rel_nil ?_
      intro W6 hL2 hF2
      obtain ⟨w8, hl8, A8, c8, e8, hO8, hg8⟩ := Known.out (hF2 13) rfl
      simp at e8
      obtain ⟨rfl, rfl⟩ := e8
      have hRl := kR.cells.2.2
      clear ekB fkB lkB
      replace hb := b_step hb hL2; replace kR := kR.b hL2
      have hP := hO8.b hl8
      clear hF2 hl8 hO8 hL2 gc gf gl
      have hPg : ∀ j, Value.ownBlock (.slice A2 u.n.steps.length c2) = some j → w.heap.size + 1 < j := fun j hj => by have := hg8 j hj; omega
      obtain ⟨ekR, fkR, lkR⟩ := kR.cells
      go_wp2_with fail
      (refine bodyPost_ret (res_ct rfl _ [.int .i64 2, .string n, .int .i64 u.sent, .int .i64 u.n.q, .int .i64 u.n.s, .slice A2 u.n.steps.length c2, .int .i64 u.n.fr, .int .i64 u.n.by_] rfl _ rfl _ Try.underlying46 rfl (by kernel_rfl) (by simp only [CellsAt, and_true]; and_intros <;> go_simp)) rfl ?_)
      rw [HWy.out HA.out, decide_eq_true HA.out]
      exact ⟨A2, c2, rfl, (by repeat' (first | with_reducible assumption | with_reducible refine Own.s ?_ _ (fun k hk => by have := hPg k hk; (try simp only); omega) | with_reducible refine Own.a ?_ _ | with_reducible refine Own.d ?_ | with_reducible refine Own.dN ?_ _ | with_reducible refine Own.b ?_ (by with_reducible assumption))), fun k hk => by have := hPg k hk; omega, (by repeat' (first | with_reducible exact Below.refl _ _ | with_reducible assumption | with_reducible refine b_alloc ?_ _ | with_reducible refine b_drewN ?_ _ | with_reducible refine b_drew ?_ | with_reducible refine b_set ?_ (by first | (simp only [World.size_setCell, World.size_alloc, World.size_drew]; omega) | (simp; done) | (simp; omega)) _ | with_reducible refine b_step ?_ (by with_reducible assumption)))⟩
end Go.Proofs.Ytkpnjnkfbhomgaa
