/- The reader of codes: what a pick comes to; what changes beside the reader. -/
import Derived.Test.YtpeojnknfonmlaaJ5
import Derived.Test.YtpeojnknfonmlaaJ3
import Derived.Test.YtpeojnknfonmlaaJ4
set_option linter.unusedVariables false
set_option linter.unusedSimpArgs false
namespace Go.Proofs.Ytpeojnknfonmlaa
open Go.RowKit
def u8C (x : Int) : List Value := [.int .u8 x]
/-- a reader stands in block g; it has been asked at most N times; its bytes lie in an older block -/
structure Rdr (t : TypeId) (w : World) (g N : Nat) : Prop where
  ex : ∃ (A : Option Addr) (n c : Nat) (p : Int) (bs : List Int), Blk w g #[.slice A n c, .int .i64 p] t ∧ Rd u8C 1 1 w A n c bs ∧ n ≤ 2000 ∧ 0 ≤ p ∧ p ≤ N ∧ (∀ b off, 0 < n → A = some ⟨b, off, none⟩ → b < g) ∧ (∀ k, 0 ≤ LL.nthI bs k ∧ LL.nthI bs k ≤ 255)
theorem Rd.move {α : Type} {enc : α → List Value} {sz bytes : Nat} {w w1 : World} {A : Option Addr} {n c : Nat} {xs : List α} (h : Rd enc sz bytes w A n c xs) (hm : ∀ b off, 0 < n → A = some ⟨b, off, none⟩ → w1.heap[b]? = w.heap[b]?) (hs : w.heap.size ≤ w1.heap.size) : Rd enc sz bytes w1 A n c xs where
  len := h.len
  cap := h.cap
  room := h.room
  at_ hn := by
    obtain ⟨b, off, e, hlt, hc⟩ := h.at_ hn
    refine ⟨b, off, e, Nat.lt_of_lt_of_le hlt hs, fun i x hi j u hu => ?_⟩
    exact (World.cell?_of_block (w := w) (hm b off hn e)).trans (hc i x hi j u hu)
theorem Rd.B1 {w : World} {b off n c : Nat} {xs : List Int} (h : Rd u8C 1 1 w (some ⟨b, off, none⟩) n c xs) (k : Nat) (hk : k < n) : w.cell? ⟨b, off + k, none⟩ = some (.int .u8 (LL.nthI xs k)) := by
  obtain ⟨b', off', e, _, hc⟩ := h.get 0 k hk
  cases e
  simpa [LL.nthI] using hc 0 (.int .u8 (LL.nthI xs k)) (by simp [u8C, LL.nthI])
section
variable {w w' W : World} {g N M : Nat} {S : Nat → Prop} {t : TypeId}
theorem Rdr.lt (h : Rdr t w g N) : g < w.heap.size := by
  obtain ⟨A, n, c, p, bs, k, _⟩ := h.ex; exact blk_lt k.at_
theorem Rdr.up (h : Rdr t w g N) (hM : N ≤ M) : Rdr t w g M := by
  obtain ⟨A, n, c, p, bs, k, r, h1, h2, h3, h4⟩ := h.ex
  exact ⟨A, n, c, p, bs, k, r, h1, h2, by omega, h4⟩
theorem Rdr.b (h : Rdr t w g N) (hb : Below w.heap.size w w') : Rdr t w' g N := by
  obtain ⟨A, n, c, p, bs, k, r, h1⟩ := h.ex
  exact ⟨A, n, c, p, bs, k.b hb, r.mono hb, h1⟩
theorem Rdr.a (h : Rdr t w g N) (o : Obj) : Rdr t (w.alloc o) g N := h.b (b_alloc (Below.refl _ _) o)
theorem Rdr.d (h : Rdr t w g N) : Rdr t w.drew g N := h.b (Below.refl _ _).drew
theorem Rdr.gS (h : Rdr t w g N) (hg : GrownS w w' S) (hS : ∀ k, S k → g < k) : Rdr t w' g N := by
  have hlt := h.lt
  obtain ⟨A, n, c, p, bs, k, r, h1, h2, h3, h4, h5⟩ := h.ex
  have hm : ∀ b, b ≤ g → w'.heap[b]? = w.heap[b]? := fun b hb => hg.block b (by omega) (fun e => by have := hS b e; omega)
  exact ⟨A, n, c, p, bs, ⟨(hm g (Nat.le_refl _)).trans k.at_⟩, r.move (fun b off hn e => hm b (Nat.le_of_lt (h4 b off hn e))) hg.size, h1, h2, h3, h4, h5⟩
theorem Rdr.s (h : Rdr t w g N) {p : Addr} (hp : g < p.block) (u : Value) : Rdr t (w.setCell p u) g N := by
  refine h.gS (S := fun k => k = p.block) ⟨rfl, rfl, rfl, (by rw [World.size_setCell]; exact Nat.le_refl _), fun k _ hn => Below.heap_setCell w p u k hn⟩ (fun k e => by rw [e]; exact hp)
theorem gr_set {p : Addr} (h : GrownS w W S) (hp : S p.block ∨ w.heap.size ≤ p.block) (u : Value) : GrownS w (W.setCell p u) S :=
  ⟨h.os, h.tape, h.output, by simp only [World.size_setCell]; exact h.size, fun k hk hn => (Below.heap_setCell W p u k (fun e => by rcases hp with h1 | h1; exact hn (e ▸ h1); omega)).trans (h.block k hk hn)⟩
theorem gr_drew (h : GrownS w W S) : GrownS w W.drew S := ⟨h.os, h.tape, h.output, h.size, h.block⟩
theorem gr_alloc (h : GrownS w W S) (o : Obj) : GrownS w (W.alloc o) S := h.trans (GrownS.below (b_alloc (Below.refl _ _) o))
theorem gr_b (h : GrownS w W S) (hb : Below W.heap.size W w') : GrownS w w' S := h.trans (GrownS.below hb)
theorem Rdr.tick {A : Option Addr} {n c : Nat} {p : Int} {bs : List Int} (k : Blk w g #[.slice A n c, .int .i64 p] t) (r : Rd u8C 1 1 w A n c bs) (h1 : n ≤ 2000) (h2 : 0 ≤ p) (h3 : p ≤ N) (h4 : ∀ b off, 0 < n → A = some ⟨b, off, none⟩ → b < g) (h5 : ∀ k, 0 ≤ LL.nthI bs k ∧ LL.nthI bs k ≤ 255) : Rdr t (w.setCell ⟨g, 1, none⟩ (.int .i64 (p + 1))) g (N + 1) :=
  ⟨A, n, c, p + 1, bs, by simpa using k.put 1 (.int .i64 (p + 1)), r.move (fun b off hn e => Below.heap_setCell w _ _ b (by have := h4 b off hn e; simp only; omega)) (by rw [World.size_setCell]; exact Nat.le_refl _), h1, by omega, by push_cast; omega, h4, h5⟩
/-- the cells that a call leaves as they were -/
theorem gcell (hg : GrownS w w' S) : (∀ b o, b < w.heap.size → ¬ S b → w'.cell? ⟨b, o, none⟩ = w.cell? ⟨b, o, none⟩) ∧ (∀ b o, b < w.heap.size → ¬ S b → w'.frozen? ⟨b, o, none⟩ = w.frozen? ⟨b, o, none⟩) := by
  exact ⟨fun b o h1 h2 => World.cell?_of_block (w := w) (hg.block b h1 h2), fun b o h1 h2 => World.frozen?_of_block (w := w) (hg.block b h1 h2)⟩
theorem Rdr.s1 (h : Rdr t w g N) {k : Nat} (hp : g < k) (i : Nat) (u : Value) : Rdr t (w.setCell ⟨k, i, none⟩ u) g N := h.s (p := ⟨k, i, none⟩) hp u
theorem gr_s1 (h : GrownS w W S) {k : Nat} (hp : w.heap.size ≤ k) (i : Nat) (u : Value) : GrownS w (W.setCell ⟨k, i, none⟩ u) S := gr_set (p := ⟨k, i, none⟩) h (.inr hp) u
theorem Blk.g1 {b : Nat} {cs : Array Value} {t : TypeId} (h : Blk w b cs t) (hg : GrownS w w' (fun k => k = g)) (hd : b ≠ g) : Blk w' b cs t := h.gS hg hd
theorem Own.g1 {α : Type} {enc : α → List Value} {sz bytes e B : Nat} {v : Value} {xs : List α} (h : Own enc sz bytes e w v xs) (hg : GrownS w w' (fun k => k = g)) (hge : ∀ j, v.ownBlock = some j → B ≤ j) (hB : g < B) : Own enc sz bytes e w' v xs := h.gS hg fun k hk e => by have := hge k hk; omega
theorem Own.lt1 {α : Type} {enc : α → List Value} {sz bytes e : Nat} {v : Value} {xs : List α} (h : Own enc sz bytes e w v xs) : ∀ j, v.ownBlock = some j → j < w.heap.size := fun j hj => (h.row.lt j hj).2
theorem Own.neB2 {α : Type} {enc : α → List Value} {sz bytes e b t : Nat} {cs : Array Value} {v : Value} {xs : List α} (h : Own enc sz bytes e w v xs) (hB : Blk w b cs t) (hne : e ≠ t) : ∀ k, v.ownBlock = some k → k ≠ b := by
  intro k hk e2
  subst e2
  rcases h.row.2 with ⟨rfl, h0⟩ | ⟨g', cap, cur, rfl, _, hh, hn, _, _, _⟩
  · simp [Value.ownBlock] at hk
  · simp [Value.ownBlock] at hk
    subst hk
    have := hh.symm.trans hB.at_
    simp at this
    exact hne this.2
theorem gcell1 (hg : GrownS w w' (fun k => k = g)) : (∀ b o, b < w.heap.size → b ≠ g → w'.cell? ⟨b, o, none⟩ = w.cell? ⟨b, o, none⟩) ∧ (∀ b o, b < w.heap.size → b ≠ g → w'.frozen? ⟨b, o, none⟩ = w.frozen? ⟨b, o, none⟩) := gcell hg
end

theorem cellsAt_of {w : World} {g : Nat} (cs : List Value) (o : Nat) (h : ∀ i v, cs[i]? = some v → w.cell? ⟨g, o + i, none⟩ = some v) : CellsAt w g o cs := by
  induction cs generalizing o with
  | nil => trivial
  | cons v cs ih => exact ⟨by simpa using h 0 v rfl, ih (o + 1) fun i u hu => by have := h (i + 1) u (by simpa using hu); rwa [show o + (i + 1) = o + 1 + i by omega] at this⟩
theorem res_k {P : Program} {w : World} {fn : Func} {p : Tmp} {ty t : TypeId} (h : fn.results = #[.cell p ty]) (tmps : Array Value) {g : Nat} {cs : Array Value} (hp : tmps.getD p undef = .pointer (some ⟨g, 0, none⟩)) (d : TypeDesc) (hu : P.underlying ty = some d)
    (hd : (match d with | .struct _ | .array _ _ => true | _ => false) = true) (hk : Blk w g cs t) (hi : (P.info? ty).map (·.size) = some cs.toList.length) : (results fn tmps).run P w = .ok (.agg cs) w := by
  have := res_c (P := P) (w := w) h tmps cs.toList hp d hu hd hi (cellsAt_of _ _ fun i v hv => by rw [Nat.zero_add, hk.cells.1 i]; simpa using hv)
  simpa using this
theorem res_kt {P : Program} {w : World} {fn : Func} {p u : Tmp} {ty t : TypeId} (h : fn.results = #[.cell p ty, .tmp u]) (tmps : Array Value) {g : Nat} {cs : Array Value} (hp : tmps.getD p undef = .pointer (some ⟨g, 0, none⟩)) (v : Value) (hv : tmps.getD u undef = v) (d : TypeDesc) (hu : P.underlying ty = some d)
    (hd : (match d with | .struct _ | .array _ _ => true | _ => false) = true) (hk : Blk w g cs t) (hi : (P.info? ty).map (·.size) = some cs.toList.length) : (results fn tmps).run P w = .ok (.tuple #[.agg cs, v]) w := by
  have := res_ct (P := P) (w := w) h tmps cs.toList hp v hv d hu hd hi (cellsAt_of _ _ fun i v hv => by rw [Nat.zero_add, hk.cells.1 i]; simpa using hv)
  simpa using this
theorem xor_nn {x y : Int} (hx : 0 ≤ x) (hx1 : x < 4611686018427387904) (hy : 0 ≤ y) (hy1 : y < 4611686018427387904) : 0 ≤ bits .xor .i64 x y := by
  obtain ⟨a, rfl⟩ := Int.eq_ofNat_of_zero_le hx
  obtain ⟨b, rfl⟩ := Int.eq_ofNat_of_zero_le hy
  have h : a ^^^ b < 2 ^ 62 := Nat.xor_lt_two_pow (by omega) (by omega)
  have h1 : (BitVec.ofInt 64 (a : Int)).toNat = a := by
    rw [BitVec.ofInt_natCast, BitVec.toNat_ofNat]; exact Nat.mod_eq_of_lt (by omega)
  have h2 : (BitVec.ofInt 64 (b : Int)).toNat = b := by
    rw [BitVec.ofInt_natCast, BitVec.toNat_ofNat]; exact Nat.mod_eq_of_lt (by omega)
  show 0 ≤ IntKind.i64.wrap ((BitVec.ofInt 64 (a : Int) ^^^ BitVec.ofInt 64 (b : Int)).toNat : Int)
  rw [BitVec.toNat_xor, h1, h2]
  simp only [IntKind.wrap, IntKind.bits, IntKind.signed]
  simp
  omega
set_option maxRecDepth 100000 in
set_option maxHeartbeats 2000000 in
theorem spec_pick_c (g N : Nat) (n : Int) (w : World) (hr : Rdr 121 w g N) (hN : N ≤ 1000000000) : Calls Try.prog 69 #[.pointer (some ⟨g, 0, none⟩), .int .i64 n] w fun e w' => ∃ v, e = .returned (.int .i64 v) ∧ 0 ≤ v ∧ (v < n ∨ v = 0) ∧ GrownS w w' (fun k => k = g) ∧ Rdr 121 w' g (N + 1) := by
  obtain ⟨A, m, c, p, bs, kR, hB, hm, hp0, hp1, hlt, hby⟩ := hr.ex
  have hT : Rdr 121 (w.setCell ⟨g, 1, none⟩ (.int .i64 (p + 1))) g (N + 1) := Rdr.tick kR hB hm hp0 hp1 hlt hby
  have hG : GrownS w (w.setCell ⟨g, 1, none⟩ (.int .i64 (p + 1))) (fun k => k = g) := gr_set (S := fun k => k = g) (p := ⟨g, 1, none⟩) (GrownS.refl w (fun k => k = g)) (.inl rfl) _
  obtain ⟨e0, f0, l0⟩ := kR.cells
  have hcap := hB.cap
  go_enter Try.func69, Try.ntmps69
  replace hby := Lib.hid hby
  by_cases hn : n < 1
  · go_wp2
    all_goals go_ret
    all_goals exact ⟨_, rfl, Int.le_refl _, .inr rfl, hG, hT⟩
  by_cases hm0 : m = 0
  · subst hm0
    go_wp2
    all_goals go_ret
    all_goals exact ⟨_, rfl, Int.le_refl _, .inr rfl, hG, hT⟩
  obtain ⟨b, off, rfl, hbl⟩ := hB.addr (by omega)
  have hbg : b < g := hlt b off (by omega) rfl
  clear hlt
  by_cases hpm : p < m
  · have c0 := hB.B1 p.toNat (by omega)
    have r0 := hby.out p.toNat
    generalize LL.nthI bs p.toNat = x0 at c0 r0
    go_wp2
    all_goals go_ret
    all_goals exact ⟨_, rfl, Int.emod_nonneg _ (by omega), .inl (Int.emod_lt_of_pos _ (by omega)), hG, hT⟩
  · have i0 := Int.emod_lt_of_pos p (show (0:Int) < m by omega)
    have i1 := Int.emod_nonneg p (show (m:Int) ≠ 0 by omega)
    have j0 := Int.emod_lt_of_pos (p * 7 + 3) (show (0:Int) < m by omega)
    have j1 := Int.emod_nonneg (p * 7 + 3) (show (m:Int) ≠ 0 by omega)
    have d0 : 0 ≤ p / (m : Int) := Int.ediv_nonneg hp0 (by omega)
    have d1 : p / (m : Int) ≤ p := Int.ediv_le_self _ hp0
    have c0 := hB.B1 (p % m).toNat (by omega)
    have r0 := hby.out (p % m).toNat
    generalize LL.nthI bs (p % m).toNat = x0 at c0 r0
    have c1 := hB.B1 ((p * 7 + 3) % m).toNat (by omega)
    have r1 := hby.out ((p * 7 + 3) % m).toNat
    generalize LL.nthI bs ((p * 7 + 3) % m).toNat = x1 at c1 r1
    go_wp2
    ((refine calm_b (by kernel_rfl) (by kernel_rfl) ?_); (repeat (first | ((apply sure_cons (hg := rfl)); (focus ((intro w' hS'); (obtain ⟨hcS, hfS, hlS⟩ := bcell hS'); (try simp only [World.size_setCell, World.size_alloc, World.size_drew] at hS' hcS hfS hlS); (go_simp); (try go_bits); (try ((first | rw [if_pos (by omega)] | rw [if_neg (by omega)]); go_simp)); (first | (with_reducible rfl) | (with_reducible exact rfl) | (with_reducible exact ⟨rfl, hS'⟩) | fail))); (simp only [Act.put, List.setIfInBounds_toArray, List.set_cons_zero, List.set_cons_succ])) | ((apply sure_off (hg := rfl)); (simp only [Act.put, List.setIfInBounds_toArray, List.set_cons_zero, List.set_cons_succ])))); (refine sure_nil ?_))
    intro w' hS'
    replace hT := hT.b hS'
    replace hG := gr_b hG hS'
    clear e0 f0 l0 c0 c1
    go_wp2
    all_goals go_ret
    all_goals exact ⟨_, rfl, Int.tmod_nonneg _ (xor_nn (by omega) (by omega) (by omega) (by omega)), .inl (Int.tmod_lt_of_pos _ (by omega)), hG, hT⟩
theorem pick_mono {Q : Ending → World → Prop} {g N : Nat} {n : Int} {w : World} (hr : Rdr 121 w g N) (hN : N ≤ 1000000000) (hk : ∀ v w', 0 ≤ v → (v < n ∨ v = 0) → GrownS w w' (fun k => k = g) → Rdr 121 w' g (N + 1) → Q (.returned (.int .i64 v)) w') : Calls Try.prog 69 #[.pointer (some ⟨g, 0, none⟩), .int .i64 n] w Q :=
  (spec_pick_c g N n w hr hN).mono fun e w' ⟨v, he, h0, h1, hg, hr'⟩ => by subst he; exact hk v w' h0 h1 hg hr'
theorem spec_l1Open_c (xs : List Int) (A : Option Addr) (c : Nat) (w : World) (h : Rd u8C 1 1 w A xs.length c xs) (hx : ∀ k, 0 ≤ LL.nthI xs k ∧ LL.nthI xs k ≤ 255) : Calls Try.prog 67 #[.slice A xs.length c] w fun e w' => e = .returned (.pointer (some ⟨w.heap.size, 0, none⟩)) ∧ Below w.heap.size w w' ∧ Rdr 121 w' w.heap.size 0 ∧ w'.heap.size = w.heap.size + 1 := by
  have hcap := h.cap
  have hlt : ∀ b off, A = some ⟨b, off, none⟩ → 0 < xs.length → b < w.heap.size := fun b off e hn => by
    obtain ⟨b', off', e', hb, _⟩ := h.at_ hn
    rw [e] at e'; cases e'; exact hb
  go_enter Try.func67, Try.ntmps67
  have hR := h.mono (b_alloc (Below.refl w.heap.size w) (.cells #[.slice A xs.length c, .int .i64 0] 121))
  have hR2 : ¬ (xs.length : Int) ≤ 2000 → Rd u8C 1 1 (w.alloc (.cells #[.slice A 2000 c, .int .i64 0] 121)) A 2000 c (xs.take 2000) := fun hn => by
    have h1 := h.mono (b_alloc (Below.refl w.heap.size w) (.cells #[.slice A 2000 c, .int .i64 0] 121))
    refine ⟨by simp; omega, by omega, by omega, fun _ => ?_⟩
    obtain ⟨b, off, e, hb, hc⟩ := h1.at_ (by omega)
    refine ⟨b, off, e, hb, fun i x hi => hc i x ?_⟩
    rw [List.getElem?_take] at hi
    split at hi
    · exact hi
    · cases hi
  have hx2 : ∀ k, 0 ≤ LL.nthI (xs.take 2000) k ∧ LL.nthI (xs.take 2000) k ≤ 255 := fun k => by
    have := hx k
    unfold LL.nthI at this ⊢
    simp only [List.getD_eq_getElem?_getD, List.getElem?_take] at this ⊢
    split
    · exact this
    · simp
  replace hx := Lib.hid hx
  replace hx2 := Lib.hid hx2
  replace hlt := Lib.hid hlt
  go_wp2
  all_goals go_ret
  · refine ⟨rfl, (by repeat' (first | with_reducible exact Below.refl _ _ | with_reducible assumption | with_reducible refine b_alloc ?_ _ | with_reducible refine b_drewN ?_ _ | with_reducible refine b_drew ?_ | with_reducible refine b_set ?_ (by first | (simp only [World.size_setCell, World.size_alloc, World.size_drew]; omega) | (simp; done) | (simp; omega)) _ | with_reducible refine b_step ?_ (by with_reducible assumption))), ⟨A, 2000, c, 0, xs.take 2000, Blk.new _ _ _, hR2 (by omega), by omega, by omega, by omega, fun b off h0 e => hlt.out b off e (by omega), hx2.out⟩, by simp⟩
  · refine ⟨rfl, (by repeat' (first | with_reducible exact Below.refl _ _ | with_reducible assumption | with_reducible refine b_alloc ?_ _ | with_reducible refine b_drewN ?_ _ | with_reducible refine b_drew ?_ | with_reducible refine b_set ?_ (by first | (simp only [World.size_setCell, World.size_alloc, World.size_drew]; omega) | (simp; done) | (simp; omega)) _ | with_reducible refine b_step ?_ (by with_reducible assumption))), ⟨A, xs.length, c, 0, xs, Blk.new _ _ _, hR, by omega, by omega, by omega, fun b off h0 e => hlt.out b off e (by omega), hx.out⟩, by simp⟩
end Go.Proofs.Ytpeojnknfonmlaa
