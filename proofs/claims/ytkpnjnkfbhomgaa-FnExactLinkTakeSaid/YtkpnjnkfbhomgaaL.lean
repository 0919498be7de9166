/- Words that the walks of this claim use: what a slice of plain structs reads as, what worlds have in common, the ends of walks. -/
import Derived.Test.YtkpnjnkfbhomgaaProg
import Derived.Test.YtkpnjnkfbhomgaaM
import Derived.WalkKit
import Derived.KernelRfl
import Derived.Deep.QuietTactic
import Derived.BigQuiet
import Derived.Maps.AppendAt
import Derived.Deep.AppendLies
import Derived.Laws.MakeOwn
import Derived.Laws.OwnMore
import Derived.Deep.DeepCutAuto
import Derived.Deep.CutBlock
import Derived.Deep.Light
import Derived.Lib.Hide
import Derived.Handy
import Derived.Deep.RegionWith
set_option linter.unusedVariables false
set_option linter.unusedSimpArgs false
namespace Go.Proofs.Ytkpnjnkfbhomgaa
open Go.RowKit

theorem rb {a b : Bool} (h : a = b) : Ending.returned (.bool a) = .returned (.bool b) := by rw [h]
theorem ri {a b : Int} (h : a = b) : Ending.returned (.int .i64 a) = .returned (.int .i64 b) := by rw [h]
theorem rd_ {p : Prop} [Decidable p] {a : Bool} (h : p ↔ a = true) : Ending.returned (.bool a) = .returned (.bool (decide p)) := by rw [show a = decide p by rw [Bool.eq_iff_iff, decide_eq_true_iff]; exact h.symm]
theorem rt2 {p : Prop} [Decidable p] {a b : Int} {c : Bool} (h : p ↔ c = true) (h2 : a = b) : Ending.returned (.tuple #[.int .i64 a, .bool c]) = .returned (.tuple #[.int .i64 b, .bool (decide p)]) := by rw [show c = decide p by rw [Bool.eq_iff_iff, decide_eq_true_iff]; exact h.symm, h2]
theorem dec_t {p : Prop} [Decidable p] (h : p) : true = decide p := (decide_eq_true h).symm
theorem dec_f {p : Prop} [Decidable p] (h : ¬ p) : false = decide p := (decide_eq_false h).symm

/-- The greater of two whole numbers, as Go's max tells it; the smaller. -/
def mx (a b : Int) : Int := if a < b then b else a
def mn (a b : Int) : Int := if b < a then b else a
theorem max2_i (k k' : IntKind) (x y : Int) : Builtin.max2 (.int k x) (.int k' y) = pure (.int k (mx x y)) := by simp only [Builtin.max2, gt_iff_lt, mx]
theorem min2_i (k k' : IntKind) (x y : Int) : Builtin.min2 (.int k x) (.int k' y) = pure (.int k (mn x y)) := by simp only [Builtin.min2, gt_iff_lt, mn]
/-! ### worlds -/
theorem bcell {W w1 : World} (hb : Below W.heap.size W w1) : (∀ b o, b < W.heap.size → w1.cell? ⟨b, o, none⟩ = W.cell? ⟨b, o, none⟩) ∧ (∀ b o, b < W.heap.size → w1.frozen? ⟨b, o, none⟩ = W.frozen? ⟨b, o, none⟩) ∧ ∀ n, n < W.heap.size → n < w1.heap.size :=
  ⟨fun b o h => hb.cell (p := ⟨b, o, none⟩) h, fun b o h => hb.frozen (p := ⟨b, o, none⟩) h, fun n h => Nat.lt_of_lt_of_le h hb.size⟩
theorem b_alloc {w W : World} (h : Below w.heap.size w W) (o : Obj) : Below w.heap.size w (W.alloc o) := h.alloc h.size o
theorem b_drew {w W : World} (h : Below w.heap.size w W) : Below w.heap.size w W.drew := h.drew
theorem b_drewN {w W : World} (h : Below w.heap.size w W) (n : Nat) : Below w.heap.size w (W.drewN n) := ⟨h.os, h.tape, h.output, h.size, h.block⟩
theorem b_un {W w1 : World} (h : Below W.drew.heap.size W.drew w1) : Below W.heap.size W w1 := ⟨h.os, h.tape, h.output, h.size, h.block⟩
theorem b_unN {W w1 : World} {n : Nat} (h : Below (W.drewN n).heap.size (W.drewN n) w1) : Below W.heap.size W w1 := ⟨h.os, h.tape, h.output, h.size, h.block⟩
theorem b_step {w W w2 : World} (h : Below w.heap.size w W) (k : Below W.heap.size W w2) : Below w.heap.size w w2 := h.trans (k.mono h.size)
theorem b_set {w W : World} {p : Addr} (h : Below w.heap.size w W) (hp : w.heap.size ≤ p.block) (u : Value) : Below w.heap.size w (W.setCell p u) := h.setCell hp u

/-! ### blocks -/
theorem blk_new (w : World) (o : Obj) : (w.alloc o).heap[w.heap.size]? = some o := heap_alloc_new w o
theorem blk_b {W w1 : World} {g : Nat} {o : Obj} (h : W.heap[g]? = some o) (hb : Below W.heap.size W w1) : w1.heap[g]? = some o := (hb.block g (Array.getElem?_eq_some_iff.1 h).1).trans h
theorem blk_a {w : World} {g : Nat} {o : Obj} (h : w.heap[g]? = some o) (o' : Obj) : (w.alloc o').heap[g]? = some o := (Below.heap_alloc w o' g (Array.getElem?_eq_some_iff.1 h).1).trans h
theorem blk_n1 {w : World} {g : Nat} {o : Obj} (h : g = w.heap.size) : (w.alloc o).heap[g]? = some o := h ▸ heap_alloc_new w o
theorem blk_lt {w : World} {g : Nat} {o : Obj} (h : w.heap[g]? = some o) : g < w.heap.size := (Array.getElem?_eq_some_iff.1 h).1
/-- a block of cells, kept out of the walk's sight -/
structure Blk (w : World) (g : Nat) (cs : Array Value) (t : TypeId) : Prop where
  at_ : w.heap[g]? = some (.cells cs t (0, 0))
theorem Blk.cells {w : World} {g : Nat} {cs : Array Value} {t : TypeId} (h : Blk w g cs t) : (∀ i, w.cell? ⟨g, i, none⟩ = cs[i]?) ∧ (∀ i, w.frozen? ⟨g, i, none⟩ = false) ∧ g < w.heap.size :=
  ⟨fun i => cell_of_row w g i cs t (0, 0) h.at_, fun i => by simp [World.frozen?, h.at_], blk_lt h.at_⟩
theorem Blk.b {W w1 : World} {g : Nat} {cs : Array Value} {t : TypeId} (h : Blk W g cs t) (hb : Below W.heap.size W w1) : Blk w1 g cs t := ⟨blk_b h.at_ hb⟩
theorem Blk.a {W : World} {g : Nat} {cs : Array Value} {t : TypeId} (h : Blk W g cs t) (o : Obj) : Blk (W.alloc o) g cs t := ⟨blk_a h.at_ o⟩
theorem Blk.d {W : World} {g : Nat} {cs : Array Value} {t : TypeId} (h : Blk W g cs t) : Blk W.drew g cs t := ⟨h.at_⟩
theorem Blk.dN {W : World} {g : Nat} {cs : Array Value} {t : TypeId} (h : Blk W g cs t) (n : Nat) : Blk (W.drewN n) g cs t := ⟨h.at_⟩
theorem Blk.new (w : World) (cs : Array Value) (t : TypeId) : Blk (w.alloc (.cells cs t)) w.heap.size cs t := ⟨blk_new w _⟩
theorem Blk.new' {w : World} {g : Nat} (cs : Array Value) (t : TypeId) (h : g = w.heap.size) : Blk (w.alloc (.cells cs t)) g cs t := ⟨blk_n1 h⟩

theorem w_lt_add {a b n : Nat} (h : a < b) : (a < b + n) = True := eq_true (by omega)
theorem w_le_of {a b : Nat} (h : a < b) : (a ≤ b) = True := eq_true (by omega)
theorem w_le_add {a b n : Nat} (h : a < b) : (a ≤ b + n) = True := eq_true (by omega)

/-! ### a slice of plain structs that is read -/
/-- the bound of what one slice takes -/
def roomB : Nat := 140737488351232
structure Rd {α : Type} (enc : α → List Value) (sz bytes : Nat) (w : World) (A : Option Addr) (n c : Nat) (xs : List α) : Prop where
  len : xs.length = n
  cap : n ≤ c
  room : n * bytes ≤ 140737488351232
  at_ : 0 < n → ∃ b off, A = some ⟨b, off, none⟩ ∧ b < w.heap.size ∧ ∀ i x, xs[i]? = some x → ∀ j u, (enc x)[j]? = some u → w.cell? ⟨b, off + i * sz + j, none⟩ = some u
theorem Rd.mono {α : Type} {enc : α → List Value} {sz bytes : Nat} {w w1 : World} {A : Option Addr} {n c : Nat} {xs : List α} (h : Rd enc sz bytes w A n c xs) (hb : Below w.heap.size w w1) : Rd enc sz bytes w1 A n c xs where
  len := h.len
  cap := h.cap
  room := h.room
  at_ hn := by
    obtain ⟨b, off, e, hlt, hc⟩ := h.at_ hn
    exact ⟨b, off, e, Nat.lt_of_lt_of_le hlt hb.size, fun i x hi j u hu => (hb.cell (p := ⟨b, _, none⟩) hlt).trans (hc i x hi j u hu)⟩
theorem Rd.get {α : Type} {enc : α → List Value} {sz bytes : Nat} {w : World} {A : Option Addr} {n c : Nat} {xs : List α} (h : Rd enc sz bytes w A n c xs) (d : α) (k : Nat) (hk : k < n) :
    ∃ b off, A = some ⟨b, off, none⟩ ∧ b < w.heap.size ∧ ∀ j u, (enc (xs.getD k d))[j]? = some u → w.cell? ⟨b, off + k * sz + j, none⟩ = some u := by
  obtain ⟨b, off, e, hlt, hc⟩ := h.at_ (by omega)
  refine ⟨b, off, e, hlt, fun j u hu => hc k _ ?_ j u hu⟩
  rw [List.getD_eq_getElem?_getD, List.getElem?_eq_getElem (by rw [h.len]; exact hk)]; rfl

/-! ### the kinds of this program -/
def stepC (s : LL.Step) : List Value := [.int .i64 s.x, .int .i64 s.y, .int .i64 s.lo, .int .i64 s.hi, .int .i64 s.fr, .int .i64 s.by_, .bool s.hold]
abbrev RdS := Rd stepC 7 56
def boxC (s : LL.Box) : List Value := [.int .i64 s.x, .int .i64 s.y, .int .i64 s.lo, .int .i64 s.hi, .int .i64 s.i, .int .i64 s.o]
abbrev RdB := Rd boxC 6 48
theorem Rd.addr {α : Type} {enc : α → List Value} {sz bytes : Nat} {w : World} {A : Option Addr} {n c : Nat} {xs : List α} (h : Rd enc sz bytes w A n c xs) (hn : 0 < n) : ∃ b off, A = some ⟨b, off, none⟩ ∧ b < w.heap.size := by
  obtain ⟨b, off, e, hlt, _⟩ := h.at_ hn
  exact ⟨b, off, e, hlt⟩
theorem Rd.here {α : Type} {enc : α → List Value} {sz bytes : Nat} {w : World} {b off n c : Nat} {xs : List α} (h : Rd enc sz bytes w (some ⟨b, off, none⟩) n c xs) (d : α) (k : Nat) (hk : k < n) :
    ∀ j u, (enc (xs.getD k d))[j]? = some u → w.cell? ⟨b, off + k * sz + j, none⟩ = some u := by
  obtain ⟨b', off', e, hlt, hc⟩ := h.get d k hk
  cases e
  exact hc
theorem Rd.S7 {w : World} {b off n c : Nat} {xs : List LL.Step} (h : RdS w (some ⟨b, off, none⟩) n c xs) (k : Nat) (hk : k < n) :
    w.cell? ⟨b, off + k * 7, none⟩ = some (.int .i64 (LL.nth xs k).x) ∧ w.cell? ⟨b, off + k * 7 + 1, none⟩ = some (.int .i64 (LL.nth xs k).y) ∧
      w.cell? ⟨b, off + k * 7 + 2, none⟩ = some (.int .i64 (LL.nth xs k).lo) ∧ w.cell? ⟨b, off + k * 7 + 3, none⟩ = some (.int .i64 (LL.nth xs k).hi) ∧ w.cell? ⟨b, off + k * 7 + 4, none⟩ = some (.int .i64 (LL.nth xs k).fr) ∧
      w.cell? ⟨b, off + k * 7 + 5, none⟩ = some (.int .i64 (LL.nth xs k).by_) ∧ w.cell? ⟨b, off + k * 7 + 6, none⟩ = some (.bool (LL.nth xs k).hold) := by
  have hc : ∀ j u, (stepC (LL.nth xs k))[j]? = some u → _ := h.here LL.z0 k hk
  exact ⟨hc 0 _ rfl, hc 1 _ rfl, hc 2 _ rfl, hc 3 _ rfl, hc 4 _ rfl, hc 5 _ rfl, hc 6 _ rfl⟩
theorem Rd.S6 {w : World} {b off n c : Nat} {xs : List LL.Box} (h : RdB w (some ⟨b, off, none⟩) n c xs) (k : Nat) (hk : k < n) :
    w.cell? ⟨b, off + k * 6, none⟩ = some (.int .i64 (LL.nthB xs k).x) ∧ w.cell? ⟨b, off + k * 6 + 1, none⟩ = some (.int .i64 (LL.nthB xs k).y) ∧
      w.cell? ⟨b, off + k * 6 + 2, none⟩ = some (.int .i64 (LL.nthB xs k).lo) ∧ w.cell? ⟨b, off + k * 6 + 3, none⟩ = some (.int .i64 (LL.nthB xs k).hi) ∧ w.cell? ⟨b, off + k * 6 + 4, none⟩ = some (.int .i64 (LL.nthB xs k).i) ∧
      w.cell? ⟨b, off + k * 6 + 5, none⟩ = some (.int .i64 (LL.nthB xs k).o) := by
  have hc : ∀ j u, (boxC (LL.nthB xs k))[j]? = some u → _ := h.here LL.b0 k hk
  exact ⟨hc 0 _ rfl, hc 1 _ rfl, hc 2 _ rfl, hc 3 _ rfl, hc 4 _ rfl, hc 5 _ rfl⟩
end Go.Proofs.Ytkpnjnkfbhomgaa
