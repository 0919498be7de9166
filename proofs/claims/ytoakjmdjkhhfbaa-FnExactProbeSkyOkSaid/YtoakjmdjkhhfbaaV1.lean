/- Rows of tubes: the laws' helpers for them. An element's model holds its handles as well. -/
import Derived.Test.YtoakjmdjkhhfbaaP2
import Derived.Test.YtoakjmdjkhhfbaaK2
import Derived.Test.YtoakjmdjkhhfbaaU1
set_option linter.unusedVariables false
set_option linter.unusedSimpArgs false
namespace Go.Proofs.Ytoakjmdjkhhfbaa
open Go.RowKit
attribute [local go_sem] w_lt_add w_le_of w_le_add max2_i min2_i
namespace LL
structure Tu where
  s : ByteArray
  A : Option Addr
  c : Nat
  xs : List Box
def tu0 : Tu := ⟨⟨#[]⟩, none, 0, []⟩
def nthT (l : List Tu) (k : Nat) : Tu := l.getD k tu0
/-- what the tubes are, wherever they lie -/
def md (l : List Tu) : List (ByteArray × List Box) := l.map fun u => (u.s, u.xs)
theorem nthT_mem {l : List Tu} {k : Nat} (h : k < l.length) : nthT l k ∈ l := by
  unfold nthT; rw [List.getD_eq_getElem?_getD, List.getElem?_eq_getElem h]; exact List.getElem_mem h
theorem md_len (l : List Tu) : (md l).length = l.length := by simp [md]
theorem md_at {l : List Tu} {k : Nat} (h : k < l.length) : (md l)[k]? = some ((nthT l k).s, (nthT l k).xs) := by
  unfold md nthT; rw [List.getElem?_map, List.getD_eq_getElem?_getD, List.getElem?_eq_getElem h]; rfl
theorem md_on {us ts : List Tu} {k : Nat} {u : Tu} (h : md us = (md ts).take k) (hk : k < ts.length) (h1 : u.s = (nthT ts k).s) (h2 : u.xs = (nthT ts k).xs) : md (us ++ [u]) = (md ts).take (k + 1) := by
  rw [List.take_add_one, md_at hk, ← h]; simp [md, h1, h2]
theorem md_eq {ts us : List Tu} (h : md us = md ts) (k : Nat) (hk : k < ts.length) : (nthT us k).s = (nthT ts k).s ∧ (nthT us k).xs = (nthT ts k).xs := by
  have hl : us.length = ts.length := by rw [← md_len us, h, md_len]
  have h1 := md_at hk
  rw [← h, md_at (by omega)] at h1
  injection h1 with h1
  injection h1 with h1 h2
  exact ⟨h1, h2⟩
end LL
def tuC (u : LL.Tu) : List Value := [.string u.s, .slice u.A u.xs.length u.c]
theorem tuE : EncOk tuC 2 := ⟨fun _ => rfl, fun x u hu => by simp [tuC] at hu; rcases hu with h | h <;> subst h <;> rfl, by decide⟩
structure RdT (w : World) (A : Option Addr) (n c : Nat) (ts : List LL.Tu) : Prop where
  row : Rd tuC 2 40 w A n c ts
  el : ∀ k, k < n → RdB w (LL.nthT ts k).A (LL.nthT ts k).xs.length (LL.nthT ts k).c (LL.nthT ts k).xs
theorem RdT.mono {w w' : World} {A : Option Addr} {n c : Nat} {ts : List LL.Tu} (h : RdT w A n c ts) (hb : Below w.heap.size w w') : RdT w' A n c ts := ⟨h.row.mono hb, fun k hk => (h.el k hk).mono hb⟩
theorem RdT.S2 {w : World} {b off n c : Nat} {ts : List LL.Tu} (h : RdT w (some ⟨b, off, none⟩) n c ts) (k : Nat) (hk : k < n) : w.cell? ⟨b, off + k * 2, none⟩ = some (.string (LL.nthT ts k).s) ∧ w.cell? ⟨b, off + k * 2 + 1, none⟩ = some (.slice (LL.nthT ts k).A (LL.nthT ts k).xs.length (LL.nthT ts k).c) := by
  have hc : ∀ j u, (tuC (LL.nthT ts k))[j]? = some u → _ := h.row.here LL.tu0 k hk
  exact ⟨hc 0 _ rfl, hc 1 _ rfl⟩
theorem set_mid {α : Type} (us : List α) (n : Nat) (d x : α) (h : us.length < n) : (us ++ List.replicate (n - us.length) d).set us.length x = (us ++ [x]) ++ List.replicate (n - (us ++ [x]).length) d := by
  rw [List.set_append_right _ _ (Nat.le_refl _), Nat.sub_self, show n - us.length = (n - (us ++ [x]).length) + 1 by simp; omega, List.replicate_succ, List.set_cons_zero]
  simp
/-- a call has made a row of tubes -/
def MkTS (w : World) (ts : List LL.Tu) (en : Ending) (w' : World) : Prop := ∃ ts' A' c', LL.md ts' = LL.md ts ∧ en = .returned (.slice A' ts.length c') ∧ RdT w' A' ts.length c' ts' ∧ Below w.heap.size w w'
set_option maxHeartbeats 2000000 in
theorem toProbeTubeS_c (ts : List LL.Tu) (A : Option Addr) (c : Nat) (w : World) (h : RdT w A ts.length c ts) : Calls Try.prog 17 #[.slice A ts.length c] w (MkTS w ts) := by
  have hroom := h.row.room
  go_enter Try.func17, Try.ntmps17
  go_wp2_with (at_make; (refine wp_make rfl _ _ _ rfl tuE (.agg (tuC LL.tu0).toArray) LL.tu0 Try.underlying25 (by kernel_rfl) rfl ts.length rfl rfl hroom (by decide) ?_); intro g w1 hg hO hb hgl; have hge : w.heap.size ≤ g := (by omega); clear hg)
  go_loopw [4] (fun i wr => ∃ (us : List LL.Tu), us.length ≤ ts.length ∧ i = .int .i64 us.length ∧ LL.md us = (LL.md ts).take us.length ∧ Own tuC 2 40 39 wr (.slice (some ⟨g, 0, none⟩) ts.length ts.length) (us ++ List.replicate (ts.length - us.length) LL.tu0) ∧ (∀ u ∈ us, Own boxC 6 48 116 wr (.slice u.A u.xs.length u.c) u.xs ∧ ∀ j, Value.ownBlock (.slice u.A u.xs.length u.c) = some j → g < j) ∧ Below w.heap.size w wr ∧ g < wr.heap.size) (fun i _ => ts.length - (intOf i).toNat)
  case atStart => exact ⟨[], Nat.zero_le _, rfl, rfl, by simpa using hO, (fun u hu => by cases hu), hb, hgl⟩
  case round =>
    clear hO hb hgl
    obtain ⟨us, hk, rfl, hmd, hO, hel, hb, hgl⟩ := hrel
    obtain ⟨hc, hf, hl⟩ := bcell hb
    by_cases hlt : us.length < ts.length
    · obtain ⟨b, off, rfl, hbw⟩ := h.row.addr (by omega)
      obtain ⟨c0, c1⟩ := h.S2 us.length hlt
      have hul : (us ++ List.replicate (ts.length - us.length) LL.tu0).length = ts.length := by simp; omega
      have Hul := Lib.hid hul
      clear hul
      have hset := Lib.hid (set_mid us ts.length LL.tu0)
      go_wp2_with fail
      refine (toProbeTube_c (LL.nthT ts us.length).s (LL.nthT ts us.length).xs _ _ _ ((h.el us.length hlt).mono hb)).mono ?_
      rintro e W2 ⟨A2, c2, rfl, hN, hNg, hB⟩
      have hz := hB.size
      go_wp2_with ((with_reducible refine gate_st 39 21 rfl ?_); (refine wp_put (bytes := 40) (e := 39) (cap := ts.length) 39 21 _ rfl rfl rfl tuE Hul.out us.length (⟨(LL.nthT ts us.length).s, A2, c2, (LL.nthT ts us.length).xs⟩ : LL.Tu) _ rfl rfl rfl rfl ?_ ?_ hlt ?_); (kernel_rfl); (exact hO.b hB); intro w3 hO3 hg3)
      go_roundw
      case rel =>
        rw [hset.out _ hlt] at hO3
        have hz3 := hg3.size
        refine ⟨us ++ [⟨(LL.nthT ts us.length).s, A2, c2, (LL.nthT ts us.length).xs⟩], by simp; omega, by simp, ?_, hO3, ?_, b_grown (b_step hb hB) hg3 hge, by omega⟩
        · rw [List.length_append]; exact LL.md_on hmd hlt rfl rfl
        · intro u hu
          rcases List.mem_append.1 hu with hu | hu
          · obtain ⟨h1, h2⟩ := hel u hu
            exact ⟨(h1.b hB).grown hg3 (.inr fun h9 => by have := h2 _ h9; omega), h2⟩
          · obtain rfl := List.mem_singleton.1 hu
            exact ⟨hN.grown hg3 (.inr fun h9 => by have := hNg _ h9; omega), fun j hj => by have := hNg j hj; omega⟩
      case measure => simp [intOf]; omega
    · have hkl : us.length = ts.length := by omega
      have hmd2 : LL.md us = LL.md ts := by rw [hmd, hkl, ← LL.md_len, List.take_length]
      rw [hkl, Nat.sub_self, List.replicate_zero, List.append_nil] at hO
      have hR := hO.rd_at' tuE
      go_wp2_with fail
      go_ret
      exact ⟨us, _, _, hmd2, rfl, ⟨hR, fun k hk2 => (hel _ (LL.nthT_mem (by omega))).1.rd_at' boxE⟩, hb⟩
set_option maxRecDepth 100000 in
set_option maxHeartbeats 2000000 in
theorem eqProbeTubeS_c (ts us : List LL.Tu) (A A' : Option Addr) (c c' : Nat) (w : World) (hmd : LL.md us = LL.md ts) (h : RdT w A ts.length c us) (h' : RdT w A' ts.length c' ts) : Calls Try.prog 19 #[.slice A ts.length c, .slice A' ts.length c'] w fun e w' => e = .returned (.bool true) ∧ Below w.heap.size w w' := by
  have hroom := h.row.room
  go_enter Try.func19, Try.ntmps19
  go_wp2
  go_loopw [5] (fun i wr => ∃ k : Nat, k ≤ ts.length ∧ i = .int .i64 k ∧ Below w.heap.size w wr) (fun i _ => ts.length - (intOf i).toNat)
  case atStart => exact ⟨0, Nat.zero_le _, rfl, Below.refl _ _⟩
  case round =>
    obtain ⟨k, hk, rfl, hb⟩ := hrel
    by_cases hlt : k < ts.length
    · obtain ⟨b, off, rfl, hbw⟩ := h.row.addr (by omega)
      obtain ⟨b', off', rfl, hbw'⟩ := h'.row.addr (by omega)
      obtain ⟨c0, c1⟩ := h.S2 k hlt
      obtain ⟨d0, d1⟩ := h'.S2 k hlt
      obtain ⟨m1, m2⟩ := LL.md_eq hmd k hlt
      have r1 := h.el k hlt
      have r2 := h'.el k hlt
      generalize LL.nthT us k = u at *
      generalize LL.nthT ts k = t at *
      obtain ⟨us1, uA, uc, ux⟩ := u
      obtain ⟨ts1, tA, tc, tx⟩ := t
      simp only at m1 m2
      subst m1 m2
      obtain ⟨gc, gf, gl⟩ := bcell hb
      go_wp2_with fail
      ((refine calm_b (by kernel_rfl) (by kernel_rfl) ?_); (repeat (first | ((apply sure_cons (hg := rfl)); (focus ((intro w' hS'); (obtain ⟨hcS, hfS, hlS⟩ := bcell hS'); (try simp only [World.size_setCell, World.size_alloc, World.size_drew] at hS' hcS hfS hlS); (go_simp); (try go_bits); (try ((first | rw [if_pos (by omega)] | rw [if_neg (by omega)]); go_simp)); (first | (with_reducible rfl) | (with_reducible exact rfl) | (with_reducible exact ⟨rfl, hS'⟩) | (go_at_call 25; go_loud (refine (eqProbeTube_c _ _ _ _ _ _ _ (r1.mono (b_step hb hS')) (r2.mono (b_step hb hS'))).mono ?_); rintro e w'' ⟨rfl, hb⟩; (first | (subst hb; exact ⟨rfl, hS'⟩) | exact ⟨rfl, b_to hS' hb (by first | exact Nat.le_refl _ | (have h1 := hS'.size; (try simp only [World.size_setCell, World.size_alloc, World.size_drew] at h1); omega))⟩))))); (simp only [Act.put, List.setIfInBounds_toArray, List.set_cons_zero, List.set_cons_succ])) | ((apply sure_off (hg := rfl)); (simp only [Act.put, List.setIfInBounds_toArray, List.set_cons_zero, List.set_cons_succ])))); (refine sure_nil ?_))
      intro W8 hS8
      go_wp2_with fail
      go_roundw
      case rel => exact ⟨k + 1, by omega, by go_num, b_step hb hS8⟩
      case measure => simp [intOf]; omega
    · obtain rfl : k = ts.length := by omega
      go_wp2
      go_ret
      exact ⟨rfl, hb⟩
set_option maxHeartbeats 2000000 in
theorem szProbeTubeS_c (ts : List LL.Tu) (left : Int) (A : Option Addr) (c : Nat) (w : World) (h0 : 0 ≤ left) (h1 : left ≤ 1048576) (h : RdT w A ts.length c ts) (hz : ∀ k, k < ts.length → (LL.nthT ts k).s.size ≤ 9223372036854775807) : Calls Try.prog 15 #[.slice A ts.length c, .int .i64 left] w fun e w' => (∃ v : Int, e = .returned (.int .i64 v) ∧ v ≤ 1048576) ∧ Below w.heap.size w w' := by
  have hroom := h.row.room
  by_cases hs : left - (ts.length : Int) < 0
  · go_enter Try.func15, Try.ntmps15
    go_wp2_with fail
    go_ret
    exact ⟨⟨_, rfl, by decide⟩, (by repeat' (first | with_reducible exact Below.refl _ _ | with_reducible assumption | with_reducible refine b_alloc ?_ _ | with_reducible refine b_drewN ?_ _ | with_reducible refine b_drew ?_ | with_reducible refine b_set ?_ (by first | (simp only [World.size_setCell, World.size_alloc, World.size_drew]; omega) | (simp; done) | (simp; omega)) _ | with_reducible refine b_step ?_ (by with_reducible assumption)))⟩
  · go_enter Try.func15, Try.ntmps15
    go_wp2_with fail
    go_loopw [1, 5] (fun l i wr => ∃ (k : Nat) (v : Int), k ≤ ts.length ∧ l = .int .i64 v ∧ 0 ≤ v ∧ v ≤ 1048576 ∧ i = .int .i64 k ∧ Below w.heap.size w wr) (fun _ i _ => ts.length - (intOf i).toNat)
    case atStart => exact ⟨0, left - (ts.length : Int), Nat.zero_le _, by go_num, by omega, by omega, rfl, Below.refl _ _⟩
    case round =>
      obtain ⟨k, v, hk, rfl, v0, v1, rfl, hb⟩ := hrel
      obtain ⟨gc, gf, gl⟩ := bcell hb
      by_cases hlt : k < ts.length
      · obtain ⟨b, off, rfl, hbw⟩ := h.row.addr (by omega)
        obtain ⟨c0, c1⟩ := h.S2 k hlt
        have r1 := (h.el k hlt).room
        have r2 := hz k hlt
        go_wp2_with fail
        refine (szProbeTube_c (LL.nthT ts k).s (LL.nthT ts k).xs.length v _ _ _ v0 v1 r2 (by omega)).mono ?_
        rintro e W2 ⟨rfl, hB⟩
        have q1 := LL.szT_le v0 (LL.nthT ts k).s.size (LL.nthT ts k).xs.length
        generalize LL.szT v (LL.nthT ts k).s.size (LL.nthT ts k).xs.length = v2 at *
        by_cases hn : v2 < 0
        · go_wp2_with fail
          go_ret
          exact ⟨⟨_, rfl, by decide⟩, b_step hb hB⟩
        · go_wp2_with fail
          go_roundw
          case rel => exact ⟨k + 1, v2, by omega, rfl, by omega, by omega, by go_num, b_step hb hB⟩
          case measure => simp [intOf]; omega
      · obtain rfl : k = ts.length := by omega
        go_wp2_with fail
        go_ret
        exact ⟨⟨_, rfl, v1⟩, hb⟩
end Go.Proofs.Ytoakjmdjkhhfbaa
