/- What is drawn: names; a copy of a tube. -/
import Derived.Test.YtpeojnknfonmlaaQC
import Derived.Test.YtpeojnknfonmlaaP2
import Derived.Test.YtpeojnknfonmlaaJ7
import Derived.Test.YtpeojnknfonmlaaJ4
set_option linter.unusedVariables false
set_option linter.unusedSimpArgs false
namespace Go.Proofs.Ytpeojnknfonmlaa
open Go.RowKit
section
variable {P : Program} {o : Oper} {a : Act} {W : World} {α : Type} {enc : α → List Value} {sz bytes e : Nat}
/-- append([]T{}, x...) as an operation of a region that draws its order -/
theorem ran_appQ {R : Value → World → Prop} (s x : Operand) (t : TypeId) (ho : o.op = .call { callee := .builtin .append, args := #[s, x], argTypes := #[t, t] }) (E : EncOk enc sz) (z : Value) (ht : P.underlying t = some (.slice e))
    (hinfo : (P.info? e).map (fun i => (i.zero, i.size, i.bytes)) = some (some z, sz, bytes)) (hz : z.cells.size = sz) (hb0 : 0 < bytes) {g : Nat} (hs : a.eval s = .slice (some ⟨g, 0, none⟩) 0 0) (HO : Own enc sz bytes e W (.slice (some ⟨g, 0, none⟩) 0 0) ([] : List α)) {A : Option Addr} {m c : Nat} {ys : List α} (hx : a.eval x = .slice A m c)
    (hR : Rd enc sz bytes W A m c ys) (h : ∀ v' w', Own enc sz bytes e w' v' ys → Below W.heap.size W w' → (v'.ownBlock = some g ∨ v'.ownBlock = some W.heap.size) → R v' w') : Ran P R W ((execOp a.eval o).run P W) := by
  obtain ⟨v', w', hrun, hO, hB, hat⟩ := run_app_fresh (P := P) t o.type E z ht hinfo hz hb0 HO hR
  unfold execOp
  simp only [ho, resolve, invoke, builtin, Sem.run_bind, Sem.run_pure, Result.andThen_ok, List.map_toArray, List.map_cons, List.map_nil, hs, hx, hrun]
  exact ⟨hB, h v' w' hO hB hat⟩
end
set_option maxRecDepth 100000 in
set_option maxHeartbeats 2000000 in
theorem spec_of11_c (g N b n t : Nat) (cs : Array Value) (w : World) (hr : Rdr 116 w g N) (hN : N ≤ 1000000) (hb : Blk w b cs t) (hbg : b ≠ g) (h1 : 1 ≤ n) (h8 : n ≤ 8) (hs : ∀ i, i < n → ∃ s : ByteArray, cs[i]? = some (.string s) ∧ s.size ≤ 64) : Calls Try.prog 99 #[.pointer (some ⟨g, 0, none⟩), .slice (some ⟨b, 0, none⟩) n n] w fun e w' => ∃ s : ByteArray, e = .returned (.string s) ∧ s.size ≤ 64 ∧ GrownS w w' (fun k => k = g) ∧ Rdr 116 w' g (N + 1) := by
  have hlt := hr.lt
  have lb := blk_lt hb.at_
  replace hs := Lib.hid hs
  go_enter Try.func99, Try.ntmps99
  go_wp2_with ((go_at_call 100; (refine pick11_mono (N := ?_) ?_ ?_ ?_); (rotate_left); (focus (exact (by repeat' (first | with_reducible assumption | with_reducible refine Rdr.a ?_ _ | with_reducible refine Rdr.d ?_ | with_reducible refine Rdr.s1 ?_ (by omega) _ _ | with_reducible refine Rdr.b ?_ (by with_reducible assumption))))); (focus omega); intro v1 w1 hv0 hv1 hg1 hr1; obtain ⟨hc, hf⟩ := gcell1 hg1; (try simp only [World.size_drew] at hc hf); have hz := hg1.size; (try simp only [World.size_setCell, World.size_alloc, World.size_drew] at hz); (try have hv2 := pk_lt hv1 (by omega)); have yw1_0 : b < w1.heap.size := (by omega)); obtain ⟨s, hs1, hs2⟩ := hs.out v1.toNat (by omega); have d0 := (hb.cells.1 v1.toNat).trans hs1)
  go_ret
  exact ⟨s, rfl, hs2, hg1, hr1⟩
theorem of11_mono {Q : Ending → World → Prop} {g N b n t : Nat} {cs : Array Value} {w : World} (hr : Rdr 116 w g N) (hN : N ≤ 1000000) (hb : Blk w b cs t) (hbg : b ≠ g) (h1 : 1 ≤ n) (h8 : n ≤ 8) (hs : ∀ i, i < n → ∃ s : ByteArray, cs[i]? = some (.string s) ∧ s.size ≤ 64) (hk : ∀ (s : ByteArray) (w' : World), s.size ≤ 64 → GrownS w w' (fun k => k = g) → Rdr 116 w' g (N + 1) → Q (.returned (.string s)) w') : Calls Try.prog 99 #[.pointer (some ⟨g, 0, none⟩), .slice (some ⟨b, 0, none⟩) n n] w Q :=
  (spec_of11_c g N b n t cs w hr hN hb hbg h1 h8 hs).mono fun e w' ⟨s, he, h, hg, hr'⟩ => by subst he; exact hk s w' h hg hr'
theorem dbl (a m : Nat) : a * m = (a + a) * (m / 2) + (if m % 2 = 1 then a else 0) := by
  have h : a * (2 * (m / 2)) = (a + a) * (m / 2) := by rw [← Nat.two_mul, Nat.mul_assoc, Nat.mul_left_comm]
  by_cases c : m % 2 = 1
  · rw [if_pos c, ← h, ← Nat.mul_succ]; congr 1; omega
  · rw [if_neg c, ← h, Nat.add_zero]; congr 1; omega
set_option maxRecDepth 100000 in
set_option maxHeartbeats 2000000 in
theorem spec_l11Many_c (s : ByteArray) (n : Int) (w : World) (hs : s.size ≤ 1) (h0 : 0 ≤ n) (h9 : n ≤ 9) : Calls Try.prog 112 #[.string s, .int .i64 n] w fun e w' => ∃ s : ByteArray, e = .returned (.string s) ∧ s.size ≤ 64 ∧ Below w.heap.size w w' := by
  go_enter Try.func112, Try.ntmps112
  go_wp2
  go_loopw [0, 1, 5] (fun a b o wr => ∃ (s o' : ByteArray) (m : Nat), a = .string s ∧ b = .int .i64 m ∧ o = .string o' ∧ m ≤ 9 ∧ o'.size + s.size * m ≤ 9 ∧ s.size ≤ 18 ∧ Below w.heap.size w wr) (fun _ b _ _ => (intOf b).toNat)
  case atStart =>
    have h5 : s.size * n.toNat ≤ 1 * 9 := Nat.mul_le_mul hs (by omega)
    have h6 : (⟨#[]⟩ : ByteArray).size + s.size * n.toNat ≤ 9 := by show 0 + s.size * n.toNat ≤ 9; omega
    exact ⟨s, _, n.toNat, rfl, by rw [Int.toNat_of_nonneg h0], rfl, by omega, h6, by omega, (by repeat' (first | with_reducible exact Below.refl _ _ | with_reducible assumption | with_reducible refine b_alloc ?_ _ | with_reducible refine b_drewN ?_ _ | with_reducible refine b_drew ?_ | with_reducible refine b_set ?_ (by first | (simp only [World.size_setCell, World.size_alloc, World.size_drew]; omega) | (simp; done) | (simp; omega)) _ | with_reducible refine b_step ?_ (by with_reducible assumption)))⟩
  case round =>
    obtain ⟨s, o', m, rfl, rfl, rfl, hm, hso, hs18, hb⟩ := hrel
    by_cases hm0 : m = 0
    · subst hm0
      go_wp2
      go_ret
      exact ⟨o', rfl, by omega, (by repeat' (first | with_reducible exact Below.refl _ _ | with_reducible assumption | with_reducible refine b_alloc ?_ _ | with_reducible refine b_drewN ?_ _ | with_reducible refine b_drew ?_ | with_reducible refine b_set ?_ (by first | (simp only [World.size_setCell, World.size_alloc, World.size_drew]; omega) | (simp; done) | (simp; omega)) _ | with_reducible refine b_step ?_ (by with_reducible assumption)))⟩
    · have e1 : s.size ≤ s.size * m := Nat.le_mul_of_pos_right _ (by omega)
      have e2 := dbl s.size m
      by_cases hodd : m % 2 = 1
      · rw [if_pos hodd] at e2
        go_wp2
        go_roundw
        case rel => exact ⟨s ++ s, o' ++ s, m / 2, rfl, by go_num, rfl, by omega, by rw [ByteArray.size_append, ByteArray.size_append]; omega, by rw [ByteArray.size_append]; omega, hb⟩
        case measure => simp [intOf]; omega
      · rw [if_neg hodd] at e2
        go_wp2
        go_roundw
        case rel => exact ⟨s ++ s, o', m / 2, rfl, by go_num, rfl, by omega, by rw [ByteArray.size_append]; omega, by rw [ByteArray.size_append]; omega, hb⟩
        case measure => simp [intOf]; omega
/-- a call has made a tube of this content -/
def MkTq (e : Nat) (w : World) (s : ByteArray) (xs : List LL.Box) (en : Ending) (w' : World) : Prop := ∃ A c, en = .returned (.agg #[.string s, .slice A xs.length c]) ∧ Own boxC 6 48 e w' (.slice A xs.length c) xs ∧ (∀ k, Value.ownBlock (.slice A xs.length c) = some k → w.heap.size ≤ k) ∧ Below w.heap.size w w'
set_option maxRecDepth 100000 in
set_option maxHeartbeats 4000000 in
theorem spec_l12Copy_c (s : ByteArray) (xs : List LL.Box) (A : Option Addr) (c : Nat) (w : World) (h : RdB w A xs.length c xs) : Calls Try.prog 111 #[.agg #[.string s, .slice A xs.length c]] w (MkTq 36 w s xs) := by
  have hroom := h.room
  go_enter Try.func111, Try.ntmps111
  go_upto_region 1 with fail
  refine wp_name (fun W => Below w.heap.size w W ∧ Blk W w.heap.size #[.string s, .slice A xs.length c] 25 ∧ Blk W (w.heap.size + 1) #[.string ⟨#[]⟩, .slice none 0 0] 25) ⟨(by repeat' (first | with_reducible exact Below.refl _ _ | with_reducible assumption | with_reducible refine b_alloc ?_ _ | with_reducible refine b_drewN ?_ _ | with_reducible refine b_drew ?_ | with_reducible refine b_set ?_ (by first | (simp only [World.size_setCell, World.size_alloc, World.size_drew]; omega) | (simp; done) | (simp; omega)) _ | with_reducible refine b_step ?_ (by with_reducible assumption))), (by repeat' (first | with_reducible assumption | with_reducible exact Blk.new _ _ _ | with_reducible exact Blk.new' _ _ (by first | (simp only [World.size_alloc, World.size_setCell, World.size_drew]; done) | (simp only [World.size_alloc, World.size_setCell, World.size_drew]; omega) | omega) | with_reducible refine Blk.a ?_ _ | with_reducible refine Blk.d ?_ | with_reducible refine Blk.dN ?_ _ | with_reducible refine Blk.s ?_ (by simp only [ne_eq]; omega) _ | with_reducible refine Blk.b ?_ (by with_reducible assumption))), (by repeat' (first | with_reducible assumption | with_reducible exact Blk.new _ _ _ | with_reducible exact Blk.new' _ _ (by first | (simp only [World.size_alloc, World.size_setCell, World.size_drew]; done) | (simp only [World.size_alloc, World.size_setCell, World.size_drew]; omega) | omega) | with_reducible refine Blk.a ?_ _ | with_reducible refine Blk.d ?_ | with_reducible refine Blk.dN ?_ _ | with_reducible refine Blk.s ?_ (by simp only [ne_eq]; omega) _ | with_reducible refine Blk.b ?_ (by with_reducible assumption)))⟩ ?_
  rintro W1 ⟨hb, kP, kR⟩
  have hR1 := kR.cells.2.2
  obtain ⟨ekP, fkP, lkP⟩ := kP.cells
  refine rel_tail_b 7 [(2, fun v W => ∃ g, v = .slice (some ⟨g, 0, none⟩) 0 0 ∧ Own boxC 6 48 36 W (.slice (some ⟨g, 0, none⟩) 0 0) [] ∧ W1.heap.size ≤ g), (5, fun v W => ∃ A9 c9, v = .slice A9 xs.length c9 ∧ Own boxC 6 48 36 W (.slice A9 xs.length c9) xs ∧ (∀ j, Value.ownBlock (.slice A9 xs.length c9) = some j → W1.heap.size ≤ j))] (by kernel_rfl) (by kernel_rfl) ?_
  simp only [List.take_succ_cons, List.take_zero, List.drop_succ_cons, List.drop_zero]
  iterate 2 ((apply rel_plain (hR := rfl) (hF := fun _ => trivial) (hg := rfl)); (focus ((intro w' hL'); (obtain ⟨hcS, hfS, hlS⟩ := bcell hL'); (try simp only [World.size_setCell, World.size_alloc, World.size_drew] at hcS hfS hlS); (go_simp); (try go_bits); (try (first | (rw [if_pos (by omega)]; done) | (rw [if_neg (by omega)]; done) | (rw [if_pos (by omega)]; go_simp) | (rw [if_neg (by omega)]; go_simp))); (first | with_reducible rfl | exact rfl | skip))); (simp only [Act.put, List.setIfInBounds_toArray, List.set_cons_zero, List.set_cons_succ]))
  ((apply rel_told (hR := rfl) (hg := rfl)); (focus ((intro w' hL' hD'); (obtain ⟨hcS, hfS, hlS⟩ := bcell hL'); (try simp only [World.size_setCell, World.size_alloc, World.size_drew] at hcS hfS hlS); (go_simp); (try go_bits); (try (first | (rw [if_pos (by omega)]; done) | (rw [if_neg (by omega)]; done) | (rw [if_pos (by omega)]; go_simp) | (rw [if_neg (by omega)]; go_simp))); (refine ⟨b_alloc (Below.refl _ _) _, ?_⟩; ((repeat (first | (refine Tell.hit rfl ?_) | (refine Tell.skip rfl ?_))); exact ⟨_, rfl, Own.made' rfl, hL'.size⟩)))); (intro v' w0' hv'); (replace hv' := Tell.out hv' rfl); (obtain ⟨g, rfl, hgo, hg⟩ := hv'); (simp only [Act.put, List.setIfInBounds_toArray, List.set_cons_zero, List.set_cons_succ]))
  iterate 2 ((apply rel_plain (hR := rfl) (hF := fun _ => trivial) (hg := rfl)); (focus ((intro w' hL'); (obtain ⟨hcS, hfS, hlS⟩ := bcell hL'); (try simp only [World.size_setCell, World.size_alloc, World.size_drew] at hcS hfS hlS); (go_simp); (try go_bits); (try (first | (rw [if_pos (by omega)]; done) | (rw [if_neg (by omega)]; done) | (rw [if_pos (by omega)]; go_simp) | (rw [if_neg (by omega)]; go_simp))); (first | with_reducible rfl | exact rfl | skip))); (simp only [Act.put, List.setIfInBounds_toArray, List.set_cons_zero, List.set_cons_succ]))
  ((apply rel_told (hR := rfl) (hg := rfl)); (focus ((intro w' hL' hD'); ((obtain ⟨w8, hl8, g8, e8, hO8, hg8⟩ := Known.out (hD' ⟨2, .data⟩ (by simp) rfl) rfl); (injection e8 with e8; injection e8 with e8; injection e8 with e8; subst e8); (replace hO8 := hO8.b hl8); (refine ran_appQ (bytes := 48) (e := 36) _ _ _ rfl boxE (.agg (boxC LL.b0).toArray) Try.underlying23 (by kernel_rfl) rfl (by decide) rfl hO8 rfl (h.mono (b_step hb hL')) ?_); (intro v' w'' hO' hB' hat); (obtain ⟨A', c', rfl, -⟩ := hO'.rd boxE); ((repeat (first | (refine Tell.hit rfl ?_) | (refine Tell.skip rfl ?_))); exact ⟨A', c', rfl, hO', fun j hj => by have := hL'.size; rcases hat with h9 | h9 <;> (rw [h9] at hj; cases hj; omega)⟩)))); (intro v' w0' hv'); (replace hv' := Tell.out hv' rfl); (obtain ⟨A2, c2, rfl, -⟩ := hv'); (simp only [Act.put, List.setIfInBounds_toArray, List.set_cons_zero, List.set_cons_succ]))
  ((apply rel_plain (hR := rfl) (hF := fun _ => trivial) (hg := rfl)); (focus ((intro w' hL'); (obtain ⟨hcS, hfS, hlS⟩ := bcell hL'); (try simp only [World.size_setCell, World.size_alloc, World.size_drew] at hcS hfS hlS); (go_simp); (try go_bits); (try (first | (rw [if_pos (by omega)]; done) | (rw [if_neg (by omega)]; done) | (rw [if_pos (by omega)]; go_simp) | (rw [if_neg (by omega)]; go_simp))); (first | with_reducible rfl | exact rfl | skip))); (simp only [Act.put, List.setIfInBounds_toArray, List.set_cons_zero, List.set_cons_succ]))
  refine rel_nil ?_
  intro W2 hL2 hF2
  obtain ⟨w8, hl8, A8, c8, e8, hO8, hg8⟩ := Known.out (hF2 5) rfl
  injection e8 with e8 _ e9; subst e8 e9
  clear ekP fkP lkP
  replace hb := b_step hb hL2; replace kP := kP.b hL2; replace kR := kR.b hL2
  have hO := hO8.b hl8
  clear hF2 hl8 hO8 hL2
  have hO2 : ∀ j, Value.ownBlock (.slice A2 xs.length c2) = some j → w.heap.size + 1 < j := fun j hj => by have := hg8 j hj; omega
  obtain ⟨ekR, fkR, lkR⟩ := kR.cells
  go_wp2_with fail
  (refine bodyPost_ret (res_c rfl _ [.string s, .slice A2 xs.length c2] rfl _ Try.underlying25 rfl (by kernel_rfl) (by simp only [CellsAt, and_true]; and_intros <;> go_simp)) rfl ?_)
  exact ⟨_, _, rfl, ((hO.s _ (fun k hk => by have := hO2 k hk; simp only; omega)).s _ (fun k hk => by have := hO2 k hk; simp only; omega)), fun k hk => by have := hO2 k hk; omega, (by repeat' (first | with_reducible exact Below.refl _ _ | with_reducible assumption | with_reducible refine b_alloc ?_ _ | with_reducible refine b_drewN ?_ _ | with_reducible refine b_drew ?_ | with_reducible refine b_set ?_ (by first | (simp only [World.size_setCell, World.size_alloc, World.size_drew]; omega) | (simp; done) | (simp; omega)) _ | with_reducible refine b_step ?_ (by with_reducible assumption)))⟩
end Go.Proofs.Ytpeojnknfonmlaa
