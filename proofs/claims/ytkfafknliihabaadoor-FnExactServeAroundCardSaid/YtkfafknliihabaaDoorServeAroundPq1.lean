/-
 Part 1 of what stands behind the last text.
-/
import Derived.Test.YtkfafknliihabaaDoorRows
import Derived.ProofKit
import Derived.OpenShut
import Derived.ShutString
import Derived.ChangeOld
import Derived.Below
import Derived.Lib.SmallJoins
import Derived.Deep.Fields
import Derived.WalkKit
import Derived.WalkSpells
import Derived.WalkLawsBesides
import Derived.Lib.Hide
import Derived.Deep.Draws
import Derived.Deep.QuietTactic
import Derived.BigQuiet
import Derived.Laws.MakeOwn
import Derived.Deep.OwnRows
import Derived.Laws.OwnMore
import Derived.Deep.AppendLies
import Derived.Deep.AppendSrc
import Derived.Deep.RegionLaw
import Derived.OwnWalk
import Derived.Lib.ItoaNum
import Derived.Lib.ItoaLen
import Derived.Deep.Matrix
import Derived.Deep.RegionHeld3
import Derived.Laws.StructEq
import Derived.Maps.OwnSet
import Derived.Conc.LoneSelect
import Derived.Deep.RegionWith
import Derived.Deep.CutRange
set_option linter.unusedSectionVars false
set_option linter.unusedSimpArgs false
set_option linter.unusedVariables false
namespace Go.Proofs.YtkfafknliihabaaDoor
open Go.Joins Go.ChangeShapes Go.WideShapes Go.RowKit Go.Deep
theorem own : ownKnob Tryd.prog.godebug = none := by kernel_rfl
theorem laidOut : laidOutB Tryd.prog = true := by kernel_rfl
end Go.Proofs.YtkfafknliihabaaDoor
namespace Go.Proofs.YtkfafknliihabaaDoor
open Go.RowKit
def inB (n lo hi : Int) : Bool := decide (lo <= n /\ n <= hi)
theorem ret_bool {a b : Bool} (h : a = b) : Ending.returned (.bool a) = .returned (.bool b) := by rw [h]
theorem ret_int {k : IntKind} {a b : Int} (h : a = b) : Ending.returned (.int k a) = .returned (.int k b) := by rw [h]
theorem blk_lt {W : World} {N : Nat} {o : Obj} (hN : W.heap[N]? = some o) : N < W.heap.size := by
 rcases Nat.lt_or_ge N W.heap.size with h | h
 ·exact h
 ·rw [Array.getElem?_eq_none h] at hN; cases hN
theorem blk_below {W w1 : World} {N : Nat} {o : Obj} (hb : Below W.heap.size W w1) (hN : W.heap[N]? = some o) : w1.heap[N]? = some o /\ N < w1.heap.size :=
 ⟨(hb.block N (blk_lt hN)).trans hN, Nat.lt_of_lt_of_le (blk_lt hN) hb.size⟩
theorem blk_alloc {W : World} {N : Nat} {o : Obj} (hN : W.heap[N]? = some o) (o' : Obj) : (W.alloc o').heap[N]? = some o := (Below.heap_alloc W o' N (blk_lt hN)).trans hN
theorem below_step {w W w1 : World} (h : Below w.heap.size w W) (hb : Below W.heap.size W w1) : Below w.heap.size w w1 := h.trans (hb.mono h.size)
theorem below_al {w W : World} (h : Below w.heap.size w W) (o : Obj) : Below w.heap.size w (W.alloc o) := h.alloc h.size o
theorem blk_cell {w : World} {N : Nat} {cs : Array Value} {T : TypeId} {fz : Nat × Nat} (h : w.heap[N]? = some (.cells cs T fz)) (o : Nat) : w.cell? ⟨N, o, none⟩ = cs[o]? := cell_of_row w N o cs T fz h
set_option maxHeartbeats 400000 in
theorem l1In_any (n lo hi : Int) (w : World) :
  Calls Tryd.prog 35 #[.int .i64 n, .int .i64 lo, .int .i64 hi] w λ e w' => e = .returned (.bool (inB n lo hi)) /\ w' = w := by
 go_enter Tryd.func35, Tryd.ntmps35
 go_wp2
 all_goals go_ret
 all_goals exact ⟨ret_bool (by simp [inB]; omega), rfl⟩
end Go.Proofs.YtkfafknliihabaaDoor
namespace Go.Proofs.YtkfafknliihabaaDoor
open Go.RowKit
structure Slc (w : World) (lo hi s : Nat) (A : Option Addr) (n c : Nat) (xs : List Value) : Prop where
 len : xs.length = n * s
 le : n <= c
 cap : c <= maxLen
 at_ : 0 < n -> ∃ b off, A = some ⟨b, off, none⟩ /\ lo <= b /\ b < hi /\ b < w.heap.size /\ ∀ j v, xs[j]? = some v -> w.cell? ⟨b, off + j, none⟩ = some v
theorem Slc.keep {w w' : World} {lo hi s n c : Nat} {A : Option Addr} {xs : List Value} (h : Slc w lo hi s A n c xs) (hs : w.heap.size <= w'.heap.size) (k : ∀ b, lo <= b -> b < hi -> b < w.heap.size -> w'.heap[b]? = w.heap[b]?) : Slc w' lo hi s A n c xs :=
 ⟨h.len, h.le, h.cap, λ hn => by
  obtain ⟨b, off, e, h1, h2, h3, h4⟩ := h.at_ hn
  exact ⟨b, off, e, h1, h2, Nat.lt_of_lt_of_le h3 hs, λ j v hv => (World.cell?_of_block (k b h1 h2 h3)).trans (h4 j v hv)⟩⟩
theorem Slc.below {w w' : World} {lo hi s n c : Nat} {A : Option Addr} {xs : List Value} (h : Slc w lo hi s A n c xs) (hb : Below w.heap.size w w') : Slc w' lo hi s A n c xs :=
 h.keep hb.size λ b _ _ h3 => hb.block b h3
theorem Slc.wide {w : World} {lo hi lo' hi' s n c : Nat} {A : Option Addr} {xs : List Value} (h : Slc w lo hi s A n c xs) (h1 : lo' <= lo) (h2 : hi <= hi') : Slc w lo' hi' s A n c xs :=
 ⟨h.len, h.le, h.cap, λ hn => by obtain ⟨b, off, e, k1, k2, k3, k4⟩ := h.at_ hn; exact ⟨b, off, e, by omega, by omega, k3, k4⟩⟩
def ints (xs : List Int) : List Value := xs.map (Value.int .i64)
theorem ints_get {xs : List Int} {k : Nat} (h : k < xs.length) : (ints xs)[k]? = some (.int .i64 xs[k]) := by simp [ints, h]
theorem Slc.cellAt {w : World} {lo hi n c : Nat} {A : Option Addr} {xs : List Int} (h : Slc w lo hi 1 A n c (ints xs)) {k : Nat} (hk : k < n) : ∃ b off v, A = some ⟨b, off, none⟩ /\ lo <= b /\ b < hi /\ b < w.heap.size /\ xs[k]? = some v /\ w.cell? ⟨b, off + k, none⟩ = some (.int .i64 v) := by
 obtain ⟨b, off, e, h1, h2, h3, h4⟩ := h.at_ (by omega)
 have hl : k < xs.length := by have := h.len; simp [ints] at this; omega
 exact ⟨b, off, xs[k], e, h1, h2, h3, List.getElem?_eq_getElem hl, h4 k _ (ints_get hl)⟩
theorem Slc.length {w : World} {lo hi n c : Nat} {A : Option Addr} {xs : List Int} (h : Slc w lo hi 1 A n c (ints xs)) : xs.length = n := by have := h.len; simp [ints] at this; exact this
theorem info_int : (Tryd.prog.info? 3).map (λ i => (i.zero, i.size, i.bytes)) = some (some (.int .i64 0), 1, 8) := by kernel_rfl
theorem make_ints (n : Nat) (_hn : n <= 1048576) : ∃ cs : Array Value, cs.size = n /\ ∀ w : World, (Instr.makeSlice 23 (.int .i64 (n : Int)) (.int .i64 (n : Int))).run Tryd.prog w = .ok (.slice (some ⟨w.heap.size, 0, none⟩) n n) (w.alloc (.cells cs 3)) :=
 ⟨madeCells #[.int .i64 0] n, size_madeCells _ _, λ w => run_make_row' 23 3 (.int .i64 0) 8 Tryd.underlying23 info_int rfl .i64 .i64 n (by omega) (by omega) w⟩
theorem blk_frozen' {w : World} {N : Nat} {cs : Array Value} {T : TypeId} (h : w.heap[N]? = some (.cells cs T)) (o : Nat) : w.frozen? ⟨N, o, none⟩ = false := by simp [World.frozen?, h]
theorem blk_setCell {w : World} {g i : Nat} {cs : Array Value} {T : TypeId} {fz : Nat × Nat} (h : w.heap[g]? = some (.cells cs T fz)) (v : Value) : (w.setCell ⟨g, i, none⟩ v).heap[g]? = some (.cells (cs.setIfInBounds i v) T fz) := by
 simp [World.setCell, Array.getElem?_modify, h]
theorem slc_made {w w' : World} {n : Nat} {cs : Array Value} {T : TypeId} {xs : List Int} (hb : w'.heap[w.heap.size]? = some (.cells cs T)) (hz : w.heap.size < w'.heap.size) (hn : cs.size = n) (hn2 : n <= maxLen) (hx : xs.length = n)
  (hc : ∀ j, j < n -> cs[j]? = (ints xs)[j]?) : Slc w' w.heap.size w'.heap.size 1 (some ⟨w.heap.size, 0, none⟩) n n (ints xs) :=
 ⟨by simp [ints, hx], Nat.le_refl _, hn2, λ h0 => ⟨_, 0, rfl, Nat.le_refl _, hz, hz, λ j v hv => by
  have hj : j < n := by
   rcases Nat.lt_or_ge j n with h | h
   ·exact h
   ·rw [List.getElem?_eq_none (by simp [ints, hx]; exact h)] at hv; cases hv
  rw [Nat.zero_add, blk_cell hb, hc j hj, hv]⟩⟩
theorem list_ne_of {xs ys : List Int} {k : Nat} {u v : Int} (h1 : xs[k]? = some u) (h2 : ys[k]? = some v) (hne : ¬ u = v) : (xs == ys) = false := by
 rw [beq_eq_false_iff_ne]; intro e; subst e; rw [h1] at h2; injection h2 with h2; exact hne h2
theorem list_eq_of {xs ys : List Int} (hl : xs.length = ys.length) (h : ∀ j : Nat, j < xs.length -> xs[j]? = ys[j]?) : (xs == ys) = true := by
 rw [beq_iff_eq]; apply List.ext_getElem? ; intro j
 rcases Nat.lt_or_ge j xs.length with hj | hj
 ·exact h j hj
 ·rw [List.getElem?_eq_none hj, List.getElem?_eq_none (by omega)]
def SaysB (w : World) (t : Bool) (e : Ending) (w' : World) : Prop := e = .returned (.bool t) /\ ∃ m, w' = w.drewN m
set_option maxHeartbeats 1000000 in
theorem eqIntS_any (lo hi n c lo' hi' n' c' : Nat) (A A' : Option Addr) (xs ys : List Int) (w : World) (h : Slc w lo hi 1 A n c (ints xs)) (h' : Slc w lo' hi' 1 A' n' c' (ints ys)) (hn : n <= 1048576) (hn' : n' <= 1048576) :
  Calls Tryd.prog 25 #[.slice A n c, .slice A' n' c'] w (SaysB w (xs == ys)) := by
 have hl := Lib.hid h.length
 have hl' := Lib.hid h'.length
 by_cases hne : n = n'
 ·subst hne
  go_enter Tryd.func25, Tryd.ntmps25
  go_wp2
  go_loopw [5] (λ i wr => ∃ k : Nat, k <= n /\ i = .int .i64 k /\ (∃ m, wr = w.drewN m) /\ ∀ j, j < k -> xs[j]? = ys[j]?) (λ i _ => n - (intOf i).toNat)
  case atStart => exact ⟨0, Nat.zero_le _, rfl, ⟨0, rfl⟩, λ j hj => absurd hj (by omega)⟩
  case round =>
   obtain ⟨k, hk, rfl, ⟨m, rfl⟩, hcs⟩ := hrel
   have HC := Lib.hid hcs
   clear hcs
   by_cases hlt : k < n
   ·obtain ⟨b, off, v, rfl, _, _, h3, hxk, hv⟩ := h.cellAt hlt
    obtain ⟨b', off', v', rfl, _, _, h3', hxk', hv'⟩ := h'.cellAt hlt
    have HX := Lib.hid hxk
    have HX' := Lib.hid hxk'
    clear hxk hxk' h h'
    have i0 : (0 : Int) <= (k : Int) := by omega
    have i1 : (k : Int) < (n : Int) := by omega
    by_cases hvv : v = v'
    ·have hb : (v != v') = false := by simp [hvv]
     have HV := Lib.hid hvv
     clear hvv
     go_wp2
     go_quiet (fail)
     go_wp2
     go_roundw
     case rel => exact ⟨k + 1, by omega, by go_num, ⟨_, rfl⟩, λ j hj => by
      by_cases e : j = k
      ·subst e; rw [HX.out, HX'.out, HV.out]
      ·exact HC.out j (by omega)⟩
     case measure => simp [intOf]; omega
    ·have hb : (v != v') = true := by simp [hvv]
     have HV := Lib.hid hvv
     clear hvv
     go_wp2
     go_quiet (fail)
     go_wp2
     go_ret
     exact ⟨ret_bool (list_ne_of HX.out HX'.out HV.out).symm, _, by first | rfl | exact World.drewN_drewN _ _ _⟩
   ·have e : k = n := by omega
    subst e
    go_wp2
    go_ret
    exact ⟨ret_bool (list_eq_of (by rw [hl.out, hl'.out]) (by rw [hl.out]; exact HC.out)).symm, _, rfl⟩
 ·have hq : ((n : Int) != (n' : Int)) = true := by rw [bne_iff_ne]; omega
  clear h h'
  have HN := Lib.hid hne
  clear hne
  go_enter Tryd.func25, Tryd.ntmps25
  go_wp2
  go_ret
  exact ⟨ret_bool (by symm; rw [beq_eq_false_iff_ne]; intro e; exact HN.out (by rw [<- hl.out, <- hl'.out, e])), 0, rfl⟩
structure Chg (lo hi : Nat) (w w' : World) : Prop where
 os : w'.os = w.os
 tape : w'.tape = w.tape
 output : w'.output = w.output
 size : w.heap.size <= w'.heap.size
 block : ∀ i, i < w.heap.size -> ¬ (lo <= i /\ i < hi) -> w'.heap[i]? = w.heap[i]?
theorem Chg.refl (lo hi : Nat) (w : World) : Chg lo hi w w := ⟨rfl, rfl, rfl, Nat.le_refl _, λ _ _ _ => rfl⟩
theorem Chg.trans {lo hi : Nat} {a b c : World} (h : Chg lo hi a b) (k : Chg lo hi b c) : Chg lo hi a c :=
 ⟨k.os.trans h.os, k.tape.trans h.tape, k.output.trans h.output, Nat.le_trans h.size k.size, λ i hi hne => (k.block i (Nat.lt_of_lt_of_le hi h.size) hne).trans (h.block i hi hne)⟩
theorem Chg.of_below {lo hi : Nat} {a b : World} (h : Below a.heap.size a b) : Chg lo hi a b := ⟨h.os, h.tape, h.output, h.size, λ i hi _ => h.block i hi⟩
theorem Chg.setCell {lo hi : Nat} {a b : World} (h : Chg lo hi a b) {p : Addr} (h1 : lo <= p.block) (h2 : p.block < hi) (v : Value) : Chg lo hi a (b.setCell p v) :=
 ⟨h.os, h.tape, h.output, by simpa [World.setCell] using h.size, λ i hi hne => (Below.heap_setCell b p v i (by omega)).trans (h.block i hi hne)⟩
theorem Chg.drewN {lo hi : Nat} {a b : World} (h : Chg lo hi a b) (n : Nat) : Chg lo hi a (b.drewN n) := ⟨h.os, h.tape, h.output, h.size, h.block⟩
theorem Chg.below {lo hi B : Nat} {a b : World} (h : Chg lo hi a b) (hB : B <= lo) (h2 : B <= a.heap.size) : Below B a b := ⟨h.os, h.tape, h.output, h.size, λ i hi => h.block i (by omega) (by omega)⟩
theorem Below.chg {w a b : World} {lo hi : Nat} (h : Below w.heap.size w a) (k : Chg lo hi a b) (hlo : w.heap.size <= lo) : Below w.heap.size w b := h.trans (k.below hlo h.size)
theorem Slc.chg {w w' : World} {lo hi l' h' s n c : Nat} {A : Option Addr} {xs : List Value} (h : Slc w lo hi s A n c xs) (k : Chg l' h' w w') (hd : hi <= l' \/ h' <= lo) : Slc w' lo hi s A n c xs :=
 h.keep k.size λ b h1 h2 h3 => k.block b h3 (by omega)
structure Own (w : World) (lo hi : Nat) (A : Option Addr) (n c : Nat) (xs : List Int) : Prop where
 slc : Slc w lo hi 1 A n c (ints xs)
 blk : 0 < n -> ∃ b cs, A = some ⟨b, 0, none⟩ /\ w.heap[b]? = some (.cells cs 3) /\ n <= cs.size
def marks (k : Int) (n : Nat) : List Int := (List.range n).map λ j : Nat => k + (j : Int)
theorem marks_get {k : Int} {n j : Nat} (h : j < n) : (marks k n)[j]? = some (k + (j : Int)) := by simp [marks, h]
def Marked (w : World) (lo hi : Nat) (A : Option Addr) (n c : Nat) (k : Int) (e : Ending) (w' : World) : Prop :=
 e = .returned (.int .i64 (k + n)) /\ Own w' lo hi A n c (marks k n) /\ Chg lo hi w w' /\ w'.heap.size = w.heap.size
set_option maxHeartbeats 1000000 in
theorem markIntS_any (lo hi n c : Nat) (A : Option Addr) (xs : List Int) (k0 : Int) (w : World) (h : Own w lo hi A n c xs) (hn : n <= 1048576) (hk0 : 0 <= k0) (hk1 : k0 <= 100000000000) :
  Calls Tryd.prog 27 #[.slice A n c, .int .i64 k0] w (Marked w lo hi A n c k0) := by
 by_cases h0 : n = 0
 ·subst h0
  have H := h
  clear h
  go_enter Tryd.func27, Tryd.ntmps27
  go_wp2
  go_loopw [1, 5] (λ q i wr => q = .int .i64 k0 /\ i = .int .i64 0 /\ wr = w) (λ _ _ _ => 0)
  case atStart => exact ⟨rfl, rfl, rfl⟩
  case round =>
   obtain ⟨rfl, rfl, rfl⟩ := hrel
   go_wp2
   go_ret
   exact ⟨ret_int (by simp), ⟨⟨by simp [marks, ints], H.slc.le, H.slc.cap, λ hh => absurd hh (by omega)⟩, λ hh => absurd hh (by omega)⟩, Chg.refl _ _ _, rfl⟩
 ·obtain ⟨b, cs0, rfl, hb0, hsz0⟩ := h.blk (by omega)
  obtain ⟨b', off, e', h1, h2, h3, _⟩ := h.slc.at_ (by omega)
  injection e' with e'; injection e' with e1 e2 e3; subst e1
  have hle := h.slc.le
  have hcap := h.slc.cap
  clear e2 e3 h
  have HB0 := Lib.hid hb0
  clear hb0
  go_enter Tryd.func27, Tryd.ntmps27
  go_wp2
  go_loopw [1, 5] (λ q i wr => ∃ k : Nat, k <= n /\ q = .int .i64 (k0 + k) /\ i = .int .i64 k /\ Chg lo hi w wr /\ wr.heap.size = w.heap.size /\ ∃ cs : Array Value, wr.heap[b]? = some (.cells cs 3) /\ n <= cs.size /\ ∀ j, j < k -> cs[j]? = some (.int .i64 (k0 + j))) (λ _ i _ => n - (intOf i).toNat)
  case atStart => exact ⟨0, Nat.zero_le _, by simp, rfl, Chg.refl _ _ _, rfl, cs0, HB0.out, hsz0, λ j hj => absurd hj (by omega)⟩
  case round =>
   obtain ⟨k, hk, rfl, rfl, B, hsw, cs, hb, hsz, hcs⟩ := hrel
   have HC := Lib.hid hcs
   have HB := Lib.hid hb
   have HW := Lib.hid hsw
   have hz := blk_lt hb
   have hc := blk_cell hb
   have hf := blk_frozen' hb
   clear hcs hb hsw
   by_cases hlt : k < n
   ·have hck : ∃ u, cs[k]? = some u := ⟨cs[k]'(by omega), Array.getElem?_eq_getElem _⟩
    obtain ⟨u, hu⟩ := hck
    go_wp2
    go_roundw
    case rel => exact ⟨k + 1, by omega, by go_num, by go_num, B.setCell h1 h2 _, by simp [HW.out], cs.setIfInBounds k (.int .i64 (k0 + k)), blk_setCell HB.out _, by simp; exact hsz, λ j hj => by
     by_cases e : j = k
     ·subst e
      rw [Array.getElem?_setIfInBounds_self_of_lt (by omega)]
     ·rw [Array.getElem?_setIfInBounds_ne (by omega)]; exact HC.out j (by omega)⟩
    case measure => simp [intOf]; omega
   ·have e : k = n := by omega
    subst e
    go_wp2
    go_ret
    refine ⟨rfl, ⟨⟨by simp [marks, ints], hle, hcap, λ _ => ⟨b, 0, rfl, h1, h2, hz, λ j v hv => ?_⟩⟩, λ _ => ⟨b, cs, rfl, HB.out, hsz⟩⟩, B, HW.out⟩
    have hj : j < k := by
     rcases Nat.lt_or_ge j k with hh | hh
     ·exact hh
     ·rw [List.getElem?_eq_none (by simp [marks, ints]; exact hh)] at hv; cases hv
    rw [Nat.zero_add, hc, HC.out j hj, <- hv]
    simp [ints, marks_get hj]
end Go.Proofs.YtkfafknliihabaaDoor
namespace Go.Proofs.YtkfafknliihabaaDoor
open Go.RowKit
structure OwnV (E s : Nat) (w : World) (lo hi : Nat) (A : Option Addr) (n c : Nat) (xs : List Value) : Prop where
 slc : Slc w lo hi s A n c xs
 blk : 0 < n -> ∃ b cs, A = some ⟨b, 0, none⟩ /\ w.heap[b]? = some (.cells cs E) /\ n * s <= cs.size
section
variable {E s : Nat} {w w' : World} {lo hi n c : Nat} {A : Option Addr} {xs : List Value}
theorem OwnV.keep (h : OwnV E s w lo hi A n c xs) (hs : w.heap.size <= w'.heap.size) (k : ∀ b, lo <= b -> b < hi -> b < w.heap.size -> w'.heap[b]? = w.heap[b]?) : OwnV E s w' lo hi A n c xs :=
 ⟨h.slc.keep hs k, λ hn => by
  obtain ⟨b, cs, e, hb, hc⟩ := h.blk hn
  obtain ⟨b', off, e', h1, h2, h3, _⟩ := h.slc.at_ hn
  rw [e] at e'; injection e' with e'; injection e' with e1 e2 e3; subst e1
  exact ⟨b, cs, e, (k b h1 h2 h3).trans hb, hc⟩⟩
theorem OwnV.chg {l' h' : Nat} (h : OwnV E s w lo hi A n c xs) (k : Chg l' h' w w') (hd : hi <= l' \/ h' <= lo) : OwnV E s w' lo hi A n c xs :=
 h.keep k.size λ b h1 h2 h3 => k.block b h3 (by omega)
theorem OwnV.below (h : OwnV E s w lo hi A n c xs) (k : Below w.heap.size w w') : OwnV E s w' lo hi A n c xs := h.keep k.size λ b _ _ h3 => k.block b h3
theorem OwnV.wide {lo' hi' : Nat} (h : OwnV E s w lo hi A n c xs) (h1 : lo' <= lo) (h2 : hi <= hi') : OwnV E s w lo' hi' A n c xs := ⟨h.slc.wide h1 h2, h.blk⟩
theorem OwnV.nil (w : World) (lo hi : Nat) : OwnV E s w lo hi none 0 0 [] := ⟨⟨by simp, Nat.le_refl _, Nat.zero_le _, λ h => absurd h (by omega)⟩, λ h => absurd h (by omega)⟩
theorem OwnV.empty (w : World) (lo hi : Nat) (A : Option Addr) : OwnV E s w lo hi A 0 0 [] := ⟨⟨by simp, Nat.le_refl _, Nat.zero_le _, λ h => absurd h (by omega)⟩, λ h => absurd h (by omega)⟩
theorem ownV_of_row {base : Nat} {v : Value} (h : w.ownsRow base E s v n xs) (hs : 0 < s) : ∃ A c, v = .slice A n c /\ OwnV E s w base w.heap.size A n c xs := by
 obtain ⟨hl, h | ⟨g, cap, cur, rfl, hb, hg, hn, hc, hsz, ht⟩⟩ := h
 ·obtain ⟨rfl, rfl⟩ := h
  exact ⟨none, 0, rfl, ⟨⟨hl, Nat.le_refl _, Nat.zero_le _, λ h => absurd h (by omega)⟩, λ h => absurd h (by omega)⟩⟩
 ·refine ⟨_, cap, rfl, ⟨⟨hl, hn, hc, λ h0 => ⟨g, 0, rfl, hb, blk_lt hg, blk_lt hg, λ j v hv => ?_⟩⟩, λ h0 => ⟨g, cur, rfl, hg, by rw [hsz]; exact Nat.mul_le_mul_right _ hn⟩⟩⟩
  rw [Nat.zero_add, blk_cell hg]
  rw [<- ht] at hv
  have hj : j < n * s := by
   rcases Nat.lt_or_ge j (n * s) with h | h
   ·exact h
   ·rw [List.getElem?_eq_none (by rw [List.length_take]; omega)] at hv; cases hv
  rw [List.getElem?_take_of_lt hj] at hv
  simpa using hv
def NewV (E s : Nat) (w : World) (xs : List Value) (e : Ending) (w' : World) : Prop :=
 ∃ A n c, e = .returned (.slice A n c) /\ OwnV E s w' w.heap.size w'.heap.size A n c xs /\ Below w.heap.size w w'
def NewVB (E s : Nat) (w : World) (xs : List Value) (t : Bool) (e : Ending) (w' : World) : Prop :=
 ∃ A n c, e = .returned (.tuple #[.slice A n c, .bool t]) /\ OwnV E s w' w.heap.size w'.heap.size A n c xs /\ Below w.heap.size w w'
theorem Slc.cells (h : Slc w lo hi s A n c xs) {k : Nat} (hk : k < n) : ∃ b off, A = some ⟨b, off, none⟩ /\ lo <= b /\ b < hi /\ b < w.heap.size /\ ∀ f v, xs[k * s + f]? = some v -> w.cell? ⟨b, off + (k * s + f), none⟩ = some v := by
 obtain ⟨b, off, e, h1, h2, h3, h4⟩ := h.at_ (by omega)
 exact ⟨b, off, e, h1, h2, h3, λ f v hv => h4 _ v hv⟩
end
theorem ownV_made {E s : Nat} {w w' : World} {n m : Nat} {cs : Array Value} {xs : List Value} (hb : w'.heap[w.heap.size]? = some (.cells cs E)) (hz : w.heap.size < w'.heap.size) (hn : cs.size = m * s) (hm : n <= m) (hn2 : m <= maxLen) (hx : xs.length = n * s)
  (hc : ∀ j, j < n * s -> cs[j]? = xs[j]?) : OwnV E s w' w.heap.size w'.heap.size (some ⟨w.heap.size, 0, none⟩) n m xs :=
 ⟨⟨hx, hm, hn2, λ h0 => ⟨_, 0, rfl, Nat.le_refl _, hz, hz, λ j v hv => by
  have hj : j < n * s := by
   rcases Nat.lt_or_ge j (n * s) with h | h
   ·exact h
   ·rw [List.getElem?_eq_none (by omega)] at hv; cases hv
  rw [Nat.zero_add, blk_cell hb, hc j hj, hv]⟩⟩, λ _ => ⟨_, cs, rfl, hb, by rw [hn]; exact Nat.mul_le_mul_right _ hm⟩⟩
theorem str_eq {s s' : ByteArray} (h : (s.toList == s'.toList) = true) : s = s' := by
 rw [beq_iff_eq, ByteArray.toList_eq, ByteArray.toList_eq] at h; exact ByteArray.ext (Array.toList_inj.1 h)
theorem flat_get {α : Type} (f : α -> List Value) {s : Nat} (hf : ∀ a, (f a).length = s) : ∀ (l : List α) (k i : Nat), i < s -> (l.flatMap f)[k * s + i]? = (l[k]?).bind λ a => (f a)[i]?
 | [], k, i, _ => by simp
 | a :: l, 0, i, hi => by
  rw [List.flatMap_cons, Nat.zero_mul, Nat.zero_add, List.getElem?_append_left (by rw [hf]; exact hi)]; rfl
 | a :: l, k + 1, i, hi => by
  rw [List.flatMap_cons, List.getElem?_append_right (by rw [hf, Nat.succ_mul]; omega), hf, show (k + 1) * s + i - s = k * s + i by rw [Nat.succ_mul]; omega, flat_get f hf l k i hi]; rfl
theorem flat_len {α : Type} (f : α -> List Value) {s : Nat} (hf : ∀ a, (f a).length = s) (l : List α) : (l.flatMap f).length = l.length * s := by
 induction l with
 | nil => simp
 | cons a l ih => rw [List.flatMap_cons, List.length_append, ih, hf, List.length_cons, Nat.succ_mul]; omega
end Go.Proofs.YtkfafknliihabaaDoor
namespace Go.Proofs.YtkfafknliihabaaDoor
open Go.RowKit
theorem row_below {E s : Nat} {W W' : World} {base n : Nat} {v : Value} {xs : List Value} {w0 : World} (h : w0.ownsRow base E s v n xs) (g : W.grownBy W' v.ownBlock) (hb : base <= W.heap.size) : Below base W W' :=
 ⟨g.os, g.tape, g.output, g.size, λ i hi => g.block i (by omega) (by
  obtain ⟨_, h | ⟨b, cap, cur, rfl, h1, _⟩⟩ := h
  ·rw [h.1]; simp [Value.ownBlock]
  ·simp [Value.ownBlock]; omega)⟩
theorem row_some {E s : Nat} {w : World} {base n : Nat} {v : Value} {xs : List Value} (h : w.ownsRow base E s v n xs) (hv : ¬ v = .slice none 0 0) : ∃ g c, v = .slice (some ⟨g, 0, none⟩) n c := by
 obtain ⟨_, h | ⟨b, cap, cur, rfl, h1, _⟩⟩ := h
 ·exact absurd h.1 hv
 ·exact ⟨b, cap, rfl⟩
theorem row_empty {E s : Nat} {w : World} {base g : Nat} (hb : base <= g) (hg : w.heap[g]? = some (.cells #[] E)) : w.ownsRow base E s (.slice (some ⟨g, 0, none⟩) 0 0) 0 [] :=
 ⟨by simp, .inr ⟨g, 0, #[], rfl, hb, hg, Nat.le_refl _, Nat.zero_le _, by simp, by simp⟩⟩
theorem row_keep {E s : Nat} {w w' : World} {base n : Nat} {v : Value} {xs : List Value} (h : w.ownsRow base E s v n xs) (hb : ∀ b, b < w.heap.size -> w'.heap[b]? = w.heap[b]?) : w'.ownsRow base E s v n xs := by
 obtain ⟨hl, h | ⟨g, cap, cur, rfl, h1, hg, h2⟩⟩ := h
 ·exact ⟨hl, .inl h⟩
 ·exact ⟨hl, .inr ⟨g, cap, cur, rfl, h1, (hb g (blk_lt hg)).trans hg, h2⟩⟩
theorem row_below' {E s : Nat} {w w' : World} {base n : Nat} {v : Value} {xs : List Value} (h : w.ownsRow base E s v n xs) (hb : Below w.heap.size w w') : w'.ownsRow base E s v n xs := row_keep h λ b h => hb.block b h
theorem blk_drew {w : World} {N : Nat} {o : Obj} (h : w.heap[N]? = some o) : w.drew.heap[N]? = some o := h
theorem below_drew {a w : World} {B : Nat} (h : Below B a w) : Below B a w.drew := ⟨h.os, h.tape, h.output, h.size, h.block⟩
theorem heap_new' (w : World) (o : Obj) {b : Nat} (hb : b = w.heap.size) : (w.alloc o).heap[b]? = some o := by subst hb; exact heap_alloc_new w o
section
variable {P : Program} (w : World)
theorem run_app (t ty : TypeId) (base : Nat) (e : TypeId) (i : TypeInfo) (z : Value) (size bytes : Nat) (ht : P.underlying t = some (.slice e)) (hi : P.info? e = some i) (hz : i.zero = some z)
  (hsize : i.size = size) (hby : i.bytes = bytes) (hzs : z.cells.size = size) (hsz : 0 < size)
  (v : Value) (n : Nat) (xs : List Value) (hown : w.ownsRow base e size v n xs) (hv : ¬ v = .slice none 0 0)
  (ad : Addr) (m c : Nat) (news : List Value) (hl : news.length = m * size) (hnews : ∀ j u, news[j]? = some u -> w.cell? (ad.add j) = some u) (h1 : ∀ u ∈ news, u.oneCell' = true)
  (h63 : n + m <= maxLen) (hbytes : (n + m) * bytes <= 140737488355328) (hbase : base <= w.heap.size) :
  ∃ g cap w', (Builtin.append_ #[t, t] ty #[v, .slice (some ad) m c]).run P w = .ok (.slice (some ⟨g, 0, none⟩) (n + m) cap) w' /\
   w'.ownsRow base e size (.slice (some ⟨g, 0, none⟩) (n + m) cap) (n + m) (xs ++ news) /\ w.grownBy w' v.ownBlock /\ Below base w w' := by
 obtain ⟨v', w', hr, h2, h3, h4, h5⟩ := run_append_own_at (P := P) w base t ty e i z size bytes ht hi hz hsize hby hzs hsz v n xs hown ad m c news hl hnews h1 h63 hbytes hbase
 obtain ⟨g, cap, rfl⟩ := row_some h2 (λ h => hv (h4.1 h).1)
 exact ⟨g, cap, w', hr, h2, h3, row_below hown h3 hbase⟩
theorem wp_app {o : Oper} {a : Act} {K : Act -> World -> Prop} {Q : Exit -> Act -> World -> Prop} (s x : Operand) (t : TypeId)
  (ho : o.op = .call { callee := .builtin .append, args := #[s, x], argTypes := #[t, t] })
  (base : Nat) (e : TypeId) (i : TypeInfo) (z : Value) (size bytes : Nat) (ht : P.underlying t = some (.slice e)) (hi : P.info? e = some i) (hz : i.zero = some z)
  (hsize : i.size = size) (hby : i.bytes = bytes) (hzs : z.cells.size = size) (hsz : 0 < size)
  (v : Value) (n : Nat) (xs : List Value) (hs : a.eval s = v) (hown : w.ownsRow base e size v n xs) (hv : ¬ v = .slice none 0 0)
  (ad : Addr) (m c : Nat) (news : List Value) (hx : a.eval x = .slice (some ad) m c) (hl : news.length = m * size) (hnews : ∀ j u, news[j]? = some u -> w.cell? (ad.add j) = some u) (h1 : ∀ u ∈ news, u.oneCell' = true)
  (h63 : n + m <= maxLen) (hbytes : (n + m) * bytes <= 140737488355328) (hbase : base <= w.heap.size)
  (h : ∀ g cap w', w'.ownsRow base e size (.slice (some ⟨g, 0, none⟩) (n + m) cap) (n + m) (xs ++ news) -> w.grownBy w' v.ownBlock -> Below base w w' -> K (a.put o.dst (.slice (some ⟨g, 0, none⟩) (n + m) cap)) w') : o.wp P a w K Q := by
 obtain ⟨g, cap, w', hr, h2, h3, h4⟩ := run_app (P := P) w t o.type base e i z size bytes ht hi hz hsize hby hzs hsz v n xs hown hv ad m c news hl hnews h1 h63 hbytes hbase
 unfold Oper.wp execOp
 simp only [ho, resolve, invoke, builtin, Sem.run_bind, Sem.run_pure, Result.andThen_ok, List.map_toArray, List.map_cons, List.map_nil, hs, hx, hr]
 exact h g cap w' h2 h3 h4
theorem wpList_app {ops : Array Oper} {rest : List Oper} {o : Oper} {a : Act} {Q : Exit -> Act -> World -> Prop} (hgd : o.guard = none) (s x : Operand) (t : TypeId)
  (ho : o.op = .call { callee := .builtin .append, args := #[s, x], argTypes := #[t, t] })
  (base : Nat) (e : TypeId) (i : TypeInfo) (z : Value) (size bytes : Nat) (ht : P.underlying t = some (.slice e)) (hi : P.info? e = some i) (hz : i.zero = some z)
  (hsize : i.size = size) (hby : i.bytes = bytes) (hzs : z.cells.size = size) (hsz : 0 < size)
  (v : Value) (n : Nat) (xs : List Value) (hs : a.eval s = v) (hown : w.ownsRow base e size v n xs) (hv : ¬ v = .slice none 0 0)
  (ad : Addr) (m c : Nat) (news : List Value) (hx : a.eval x = .slice (some ad) m c) (hl : news.length = m * size) (hnews : ∀ j u, news[j]? = some u -> w.cell? (ad.add j) = some u) (h1 : ∀ u ∈ news, u.oneCell' = true)
  (h63 : n + m <= maxLen) (hbytes : (n + m) * bytes <= 140737488355328) (hbase : base <= w.heap.size)
  (h : ∀ g cap w', w'.ownsRow base e size (.slice (some ⟨g, 0, none⟩) (n + m) cap) (n + m) (xs ++ news) -> w.grownBy w' v.ownBlock -> Below base w w' -> wpList P ops Q rest (a.put o.dst (.slice (some ⟨g, 0, none⟩) (n + m) cap)) w') : wpList P ops Q (o :: rest) a w :=
 wpList_plain hgd λ _ hK => wp_app w s x t ho base e i z size bytes ht hi hz hsize hby hzs hsz v n xs hs hown hv ad m c news hx hl hnews h1 h63 hbytes hbase λ g cap w' h2 h3 h4 => hK _ _ (h g cap w' h2 h3 h4)
theorem step_app {ops : Array Oper} {o : Oper} {a : Act} {K : Act -> World -> Prop} {Q : Exit -> Act -> World -> Prop} {EE : Prop} (hgd : o.guard = none) (s x : Operand) (t : TypeId)
  (ho : o.op = .call { callee := .builtin .append, args := #[s, x], argTypes := #[t, t] })
  (base : Nat) (e : TypeId) (i : TypeInfo) (z : Value) (size bytes : Nat) (ht : P.underlying t = some (.slice e)) (hi : P.info? e = some i) (hz : i.zero = some z)
  (hsize : i.size = size) (hby : i.bytes = bytes) (hzs : z.cells.size = size) (hsz : 0 < size)
  (v : Value) (n : Nat) (xs : List Value) (hs : a.eval s = v) (hown : w.ownsRow base e size v n xs) (hv : ¬ v = .slice none 0 0)
  (ad : Addr) (m c : Nat) (news : List Value) (hx : a.eval x = .slice (some ad) m c) (hl : news.length = m * size) (hnews : ∀ j u, news[j]? = some u -> w.cell? (ad.add j) = some u) (h1 : ∀ u ∈ news, u.oneCell' = true)
  (h63 : n + m <= maxLen) (hbytes : (n + m) * bytes <= 140737488355328) (hbase : base <= w.heap.size)
  (h : ∀ g cap w', w'.ownsRow base e size (.slice (some ⟨g, 0, none⟩) (n + m) cap) (n + m) (xs ++ news) -> w.grownBy w' v.ownBlock -> Below base w w' -> K (a.put o.dst (.slice (some ⟨g, 0, none⟩) (n + m) cap)) w') :
  if Region.wanted o (yielded ops a.tmps) = true then Oper.wp P o a w K Q else EE := by
 have hw : Region.wanted o (yielded ops a.tmps) = true := by simp [Region.wanted, hgd]
 rw [if_pos hw]
 exact wp_app w s x t ho base e i z size bytes ht hi hz hsize hby hzs hsz v n xs hs hown hv ad m c news hx hl hnews h1 h63 hbytes hbase h
end
theorem Slc.news {w w' : World} {lo n c : Nat} {b off : Nat} {xs : List Int} (h : Slc w lo w.heap.size 1 (some ⟨b, off, none⟩) n c (ints xs)) (hb : Below w.heap.size w w') : ∀ j u, (ints xs)[j]? = some u -> w'.cell? ((⟨b, off, none⟩ : Addr).add j) = some u := by
 intro j u hu
 have hn : 0 < n := by have := h.len; have := (List.getElem?_eq_some_iff.1 hu).1; omega
 obtain ⟨b', off', e, _, _, h3, h4⟩ := h.at_ hn
 injection e with e; injection e with e1 e2; subst e1 e2
 rw [Addr.add_lit]
 exact (World.cell?_of_block (hb.block b h3)).trans (h4 j u hu)
theorem ints_one (xs : List Int) : ∀ u ∈ ints xs, u.oneCell' = true := by
 intro u hu; obtain ⟨x, _, rfl⟩ := List.mem_map.1 hu; rfl
theorem row_slc {E s : Nat} {w : World} {base n c : Nat} {A : Option Addr} {xs : List Value} (h : w.ownsRow base E s (.slice A n c) n xs) (hs : 0 < s) : Slc w base w.heap.size s A n c xs := by
 obtain ⟨A', c', e, o⟩ := ownV_of_row h hs
 injection e with e1 e2 e3; subst e1 e3; exact o.slc
end Go.Proofs.YtkfafknliihabaaDoor
namespace Go.Proofs.YtkfafknliihabaaDoor
open Go.RowKit
theorem slc_flat {α : Type} (f : α -> List Value) {s n c lo hi b off : Nat} {w : World} {ds : List α} (hs : 0 < s) (hf : ∀ a, (f a).length = s) (hl : ds.length = n) (hnc : n <= c) (hc : c <= maxLen) (hlo : lo <= b) (hhi : b < hi) (hb : b < w.heap.size)
  (h : ∀ i d, ds[i]? = some d -> ∀ j v, (f d)[j]? = some v -> w.cell? ⟨b, off + (i * s + j), none⟩ = some v) : Slc w lo hi s (some ⟨b, off, none⟩) n c (ds.flatMap f) := by
 refine ⟨by rw [flat_len f hf, hl], hnc, hc, λ _ => ⟨b, off, rfl, hlo, hhi, hb, λ j v hv => ?_⟩⟩
 obtain ⟨i, k, rfl, hk⟩ : ∃ i k, j = i * s + k /\ k < s := ⟨j / s, j % s, by rw [Nat.mul_comm]; exact (Nat.div_add_mod j s).symm, Nat.mod_lt _ hs⟩
 rw [flat_get f hf _ i k hk] at hv
 obtain ⟨d, hd, hv⟩ := Option.bind_eq_some_iff.1 hv
 exact h i d hd k v hv
end Go.Proofs.YtkfafknliihabaaDoor
namespace Go.Proofs.YtkfafknliihabaaDoor
open Go.RowKit
def digs (u : Nat) : List UInt8 := if u = 0 then [] else Lib.decDigits u
def markT (k : Nat) : ByteArray := ⟨(109 :: (if k = 0 then [48] else Lib.decDigits k)).toArray⟩
theorem digs_step {u : Nat} (h : 0 < u) : digs u = digs (u / 10) ++ [UInt8.ofNat (48 + u % 10)] := by
 unfold digs
 rw [if_neg (by omega)]
 by_cases h10 : u < 10
 ·rw [if_pos (by omega), Lib.decDigits_one h10, Nat.mod_eq_of_lt h10]; rfl
 ·rw [if_neg (by omega), Lib.decDigits, dif_neg h10]
theorem bytes_app (a b : Array UInt8) : (⟨a⟩ : ByteArray) ++ ⟨b⟩ = ⟨a ++ b⟩ := by
 apply ByteArray.ext; simp [ByteArray.data_append]
theorem dec_len {k : Nat} (hk : k <= 100000000) : (Lib.decDigits k).length <= 20 := by
 rw [Lib.decDigits_length]; exact Lib.nDigits_le20 k (by omega)
theorem cv1 (w : World) (x : Nat) (hx : x <= 255) : (convert 22 9 (.slice (some ⟨w.heap.size, 0, none⟩) 1 1)).run Tryd.prog (w.alloc (.cells #[.int .u8 (x : Int)] 5)) = .ok (.string ⟨[UInt8.ofNat x].toArray⟩) (w.alloc (.cells #[.int .u8 (x : Int)] 5)) :=
 run_convert_bytes_back (P := Tryd.prog) _ 22 9 5 ⟨w.heap.size, 0, none⟩ 1 [UInt8.ofNat x] Tryd.underlying22 Tryd.underlying5 Tryd.underlying9 (λ j hj => by
  obtain rfl : j = 0 := by simp at hj; omega
  simp [Addr.add]
  omega)
set_option maxHeartbeats 1000000 in
set_option maxRecDepth 20000 in
theorem markText_any (k : Nat) (hk : k <= 100000000) (w : World) :
  Calls Tryd.prog 50 #[.int .i64 k] w λ e w' => e = .returned (.string (markT k)) /\ Below w.heap.size w w' := by
 by_cases h0 : k = 0
 ·subst h0
  go_enter Tryd.func50, Tryd.ntmps50
  go_wp2
  go_ret
  exact ⟨rfl, Below.refl _ _⟩
 ·go_enter Tryd.func50, Tryd.ntmps50
  go_wp2
  go_loopw [0, 3] (λ a s wr => ∃ (u : Nat) (l : List UInt8), a = .int .i64 u /\ s = .string ⟨l.toArray⟩ /\ u <= 100000000 /\ digs u ++ l = Lib.decDigits k /\ Below w.heap.size w wr) (λ a _ _ => (intOf a).toNat)
  case atStart => exact ⟨k, [], rfl, rfl, hk, by simp [digs, h0], Below.refl _ _⟩
  case round =>
   obtain ⟨u, l, rfl, rfl, hu, hl, B⟩ := hrel
   have HL := Lib.hid hl
   clear hl
   by_cases hlt : 0 < u
   ·have hcv := cv1 wr (48 + u % 10) (by omega)
    rw [show ((48 + u % 10 : Nat) : Int) = 48 + (u : Int) % 10 by omega] at hcv
    have hll : l.length <= 20 := by have := congrArg List.length HL.out; rw [List.length_append] at this; have := dec_len (k := k) (by omega); omega
    have HD := Lib.hid (digs_step hlt)
    go_wp2
    go_roundw
    case rel => exact ⟨u / 10, UInt8.ofNat (48 + u % 10) :: l, by first | rfl | (congr 1; omega), by rw [bytes_app]; simp, by omega, by rw [<- HL.out, HD.out]; simp, below_al B _⟩
    case measure => simp [intOf]; omega
   ·have hu0 : u = 0 := by omega
    subst hu0
    have hll : l.length <= 20 := by have := congrArg List.length HL.out; rw [List.length_append] at this; have := dec_len (k := k) (by omega); omega
    have HT := Lib.hid (show (⟨#[109]⟩ : ByteArray) ++ ⟨l.toArray⟩ = markT k by rw [bytes_app, markT, if_neg h0, <- HL.out]; simp [digs])
    go_wp2
    go_ret
    exact ⟨by rw [HT.out]; rfl, B⟩
end Go.Proofs.YtkfafknliihabaaDoor
namespace Go.Proofs.YtkfafknliihabaaDoor
open Go.Joins Go.ChangeShapes Go.WideShapes Go.RowKit Go.Deep
section
variable {H : Type} {enc : TypeId × Value -> H} {P : Program} {w : World} {base : Nat} {held : Bool}
theorem add_plain (b off j : Nat) : (Addr.mk b off none).add j = ⟨b, off + j, none⟩ := by unfold Addr.add; split <;> simp_all
theorem slc_of_cells {a : Addr} {len cap : Nat} {zs : List Int} (hl : len <= cap) (hm : cap <= maxLen) (hz : len <= zs.length) (hc : ∀ i, i < zs.length -> w.cell? (a.add i) = some (.int .i64 (zs.getD i 0))) :
  Slc w 0 w.heap.size 1 (some a) len cap (ints (zs.take len)) := by
 refine ⟨by simp [ints, Nat.min_eq_left hz], hl, hm, λ h0 => ?_⟩
 obtain ⟨b, off, spot⟩ := a
 have h1 := hc 0 (by omega)
 have hspot : spot = none := by simpa [Addr.add] using World.cell?_spot h1
 subst hspot
 have hb : b < w.heap.size := by have := World.block_lt_of_cell? w _ h1; rw [add_plain] at this; exact this
 refine ⟨b, off, rfl, Nat.zero_le _, hb, hb, λ j v hv => ?_⟩
 have hj : j < len := by
  rcases Nat.lt_or_ge j len with h | h
  ·exact h
  ·rw [List.getElem?_eq_none (by simp [ints]; omega)] at hv; cases hv
 have := hc j (by omega)
 rw [add_plain] at this
 rw [this, <- hv]
 have e : (zs.take len)[j]? = some (zs.getD j 0) := by
  rw [List.getElem?_take_of_lt hj, List.getD_eq_getElem?_getD, List.getElem?_eq_getElem (by omega)]; rfl
 unfold ints
 rw [List.getElem?_map, e]; rfl
theorem read_ints {t e : TypeId} {A : Option Addr} {len cap : Nat} {d : DataW H} {p : List MemPlace} (ht : P.underlying t = some (.slice e)) (he : P.underlying e = some (.int .i64)) (hc : P.cellsOf e = 1)
  (h : DataW.Trod enc P w base (λ _ => true) held t (.slice A len cap) d p) : ∃ xs : List Int, Slc w 0 w.heap.size 1 A len cap (ints xs) := by
 obtain ⟨fuel, hf⟩ := h
 rcases open_ints ht he hc hf with ⟨hcs, _⟩ | ⟨a, len', cap', zs, hcs, _, hl, hm, hz, _, hcell, _⟩
 ·simp [Value.cells] at hcs
  obtain ⟨rfl, rfl, rfl⟩ := hcs
  exact ⟨[], ⟨rfl, Nat.le_refl _, Nat.zero_le _, λ h0 => absurd h0 (by omega)⟩⟩
 ·simp [Value.cells] at hcs
  obtain ⟨rfl, rfl, rfl⟩ := hcs
  exact ⟨_, slc_of_cells hl hm (by simp at hz; omega) hcell⟩
end
end Go.Proofs.YtkfafknliihabaaDoor
namespace Go.Proofs.YtkfafknliihabaaDoor
open Go.RowKit
structure DeedD where
 act : ByteArray
 a : Int
 b : Int
 deriving DecidableEq
def DeedD.cells (d : DeedD) : List Value := [.string d.act, .int .i64 d.a, .int .i64 d.b]
def deeds (ds : List DeedD) : List Value := ds.flatMap DeedD.cells
theorem deeds_len (ds : List DeedD) : (deeds ds).length = ds.length * 3 := flat_len DeedD.cells (s := 3) (λ _ => rfl) ds
theorem deeds_get {ds : List DeedD} {k : Nat} {d : DeedD} (h : ds[k]? = some d) : (deeds ds)[k * 3 + 0]? = some (.string d.act) /\ (deeds ds)[k * 3 + 1]? = some (.int .i64 d.a) /\ (deeds ds)[k * 3 + 2]? = some (.int .i64 d.b) := by
 have e := λ i hi => flat_get DeedD.cells (s := 3) (λ _ => rfl) ds k i hi
 unfold deeds
 rw [e 0 (by omega), e 1 (by omega), e 2 (by omega), h]
 exact ⟨rfl, rfl, rfl⟩
theorem deeds_set {ds : List DeedD} {k : Nat} {d : DeedD} {cs : Array Value} (h : ds[k]? = some d) (hs : k * 3 + 3 <= cs.size) (hc : ∀ j, j < k * 3 -> cs[j]? = (deeds ds)[j]?) :
  ∀ j, j < (k + 1) * 3 -> (((cs.setIfInBounds (k * 3) (.string d.act)).setIfInBounds (k * 3 + 1) (.int .i64 d.a)).setIfInBounds (k * 3 + 2) (.int .i64 d.b))[j]? = (deeds ds)[j]? := by
 intro j hj
 obtain ⟨g0, g1, g2⟩ := deeds_get h
 by_cases j2 : j = k * 3 + 2
 ·subst j2; rw [Array.getElem?_setIfInBounds_self_of_lt (by simp; omega), g2]
 rw [Array.getElem?_setIfInBounds_ne (by omega)]
 by_cases j1 : j = k * 3 + 1
 ·subst j1; rw [Array.getElem?_setIfInBounds_self_of_lt (by simp; omega), g1]
 rw [Array.getElem?_setIfInBounds_ne (by omega)]
 by_cases j0 : j = k * 3
 ·subst j0; rw [Array.getElem?_setIfInBounds_self_of_lt (by omega)]; exact g0.symm
 rw [Array.getElem?_setIfInBounds_ne (by omega)]
 exact hc j (by omega)
theorem Slc.deedAt {w : World} {lo hi n c : Nat} {A : Option Addr} {ds : List DeedD} (h : Slc w lo hi 3 A n c (deeds ds)) {k : Nat} (hk : k < n) :
  ∃ b off d, A = some ⟨b, off, none⟩ /\ lo <= b /\ b < hi /\ b < w.heap.size /\ ds[k]? = some d /\ w.cell? ⟨b, off + k * 3, none⟩ = some (.string d.act) /\ w.cell? ⟨b, off + k * 3 + 1, none⟩ = some (.int .i64 d.a) /\ w.cell? ⟨b, off + k * 3 + 2, none⟩ = some (.int .i64 d.b) := by
 obtain ⟨b, off, e, h1, h2, h3, h4⟩ := h.cells hk
 have hl : k < ds.length := by have := h.len; rw [deeds_len] at this; omega
 obtain ⟨g0, g1, g2⟩ := deeds_get (List.getElem?_eq_getElem hl)
 exact ⟨b, off, ds[k], e, h1, h2, h3, List.getElem?_eq_getElem hl, h4 0 _ g0, h4 1 _ g1, h4 2 _ g2⟩
theorem Slc.deedLen {w : World} {lo hi n c : Nat} {A : Option Addr} {ds : List DeedD} (h : Slc w lo hi 3 A n c (deeds ds)) : ds.length = n := by
 have := h.len; rw [deeds_len] at this; omega
set_option maxHeartbeats 1000000 in
theorem toDeed_any (d : DeedD) (w : World) :
  Calls Tryd.prog 47 #[.agg #[.string d.act, .int .i64 d.a, .int .i64 d.b]] w λ e w' => e = .returned (.agg #[.string d.act, .int .i64 d.a, .int .i64 d.b]) /\ Below w.heap.size w w' := by
 go_enter Tryd.func47, Tryd.ntmps47
 go_wp2
 refine bodyPost_ret (v := .agg #[.string d.act, .int .i64 d.a, .int .i64 d.b]) (by simp [results, Tryd.results47, go_sem]) rfl ⟨rfl, ?_⟩
 exact below_al (below_al (below_al (Below.refl _ _) _) _) _
theorem info_deed : (Tryd.prog.info? 34).map (λ i => (i.zero, i.size, i.bytes)) = some (some (.agg #[.string ⟨#[]⟩, .int .i64 0, .int .i64 0]), 3, 32) := by kernel_rfl
theorem make_deeds (n : Nat) (hn : n <= 1048576) : ∃ cs : Array Value, cs.size = n * 3 /\ ∀ w : World, (Instr.makeSlice 24 (.int .i64 (n : Int)) (.int .i64 (n : Int))).run Tryd.prog w = .ok (.slice (some ⟨w.heap.size, 0, none⟩) n n) (w.alloc (.cells cs 34)) := by
 obtain ⟨i, hi, hz, hs, hb⟩ := info_parts info_deed
 refine ⟨madeCells (Value.cells (.agg #[.string ⟨#[]⟩, .int .i64 0, .int .i64 0])) (n * 3), size_madeCells _ _, λ w => ?_⟩
 have := run_make (P := Tryd.prog) w 24 34 i _ Tryd.underlying24 hi hz .i64 .i64 n n (by omega) (Int.le_refl _) (by rw [hb]; omega) (by omega)
 rw [hs] at this
 simpa using this
set_option maxHeartbeats 1000000 in
theorem eqDeed_any (d e : DeedD) (w : World) :
  Calls Tryd.prog 49 #[.agg #[.string d.act, .int .i64 d.a, .int .i64 d.b], .agg #[.string e.act, .int .i64 e.a, .int .i64 e.b]] w λ x w' => x = .returned (.bool (d == e)) /\ Below w.heap.size w w' := by
 obtain ⟨s, x, y⟩ := d
 obtain ⟨s', x', y'⟩ := e
 go_enter Tryd.func49, Tryd.ntmps49
 go_wp2
 all_goals go_ret
 all_goals refine ⟨ret_bool ?_, below_al (below_al (Below.refl _ _) _) _⟩
 all_goals first
  | (symm; rw [beq_eq_false_iff_ne]; intro h; injection h with h1 h2 h3; subst h1 h2 h3; simp_all; done)
  | (symm; rw [beq_iff_eq]; obtain rfl : s = s' := str_eq (by simp_all); simp_all; done)
theorem held6_below {w W W' : World} {a0 a1 a2 b0 b1 b2 : Addr} {v0 v1 v2 u0 u1 u2 : Value} (hb : Below W.heap.size W W')
  (h : W.cell? a0 = some v0 /\ W.cell? a1 = some v1 /\ W.cell? a2 = some v2 /\ W.cell? b0 = some u0 /\ W.cell? b1 = some u1 /\ W.cell? b2 = some u2 /\ Below w.heap.size w W) :
  W'.cell? a0 = some v0 /\ W'.cell? a1 = some v1 /\ W'.cell? a2 = some v2 /\ W'.cell? b0 = some u0 /\ W'.cell? b1 = some u1 /\ W'.cell? b2 = some u2 /\ Below w.heap.size w W' := by
 have e : ∀ {a : Addr} {v : Value}, W.cell? a = some v -> W'.cell? a = some v := λ {a v} hv => (World.cell?_of_block (hb.block _ (World.block_lt_of_cell? W _ hv))).trans hv
 exact ⟨e h.1, e h.2.1, e h.2.2.1, e h.2.2.2.1, e h.2.2.2.2.1, e h.2.2.2.2.2.1, below_step h.2.2.2.2.2.2 hb⟩
theorem held6_drew {w W : World} {a0 a1 a2 b0 b1 b2 : Addr} {v0 v1 v2 u0 u1 u2 : Value}
  (h : W.cell? a0 = some v0 /\ W.cell? a1 = some v1 /\ W.cell? a2 = some v2 /\ W.cell? b0 = some u0 /\ W.cell? b1 = some u1 /\ W.cell? b2 = some u2 /\ Below w.heap.size w W) :
  W.drew.cell? a0 = some v0 /\ W.drew.cell? a1 = some v1 /\ W.drew.cell? a2 = some v2 /\ W.drew.cell? b0 = some u0 /\ W.drew.cell? b1 = some u1 /\ W.drew.cell? b2 = some u2 /\ Below w.heap.size w W.drew :=
 ⟨h.1, h.2.1, h.2.2.1, h.2.2.2.1, h.2.2.2.2.1, h.2.2.2.2.2.1, ⟨h.2.2.2.2.2.2.os, h.2.2.2.2.2.2.tape, h.2.2.2.2.2.2.output, h.2.2.2.2.2.2.size, h.2.2.2.2.2.2.block⟩⟩
set_option maxHeartbeats 2000000 in
theorem eqDeedS_any (lo hi n c lo' hi' n' c' : Nat) (A A' : Option Addr) (ds es : List DeedD) (w : World) (h : Slc w lo hi 3 A n c (deeds ds)) (h' : Slc w lo' hi' 3 A' n' c' (deeds es)) (hn : n <= 1048576) (hn' : n' <= 1048576) :
  Calls Tryd.prog 26 #[.slice A n c, .slice A' n' c'] w λ x w' => x = .returned (.bool (ds == es)) /\ Below w.heap.size w w' := by
 have hl := Lib.hid h.deedLen
 have hl' := Lib.hid h'.deedLen
 by_cases hne : n = n'
 ·subst hne
  go_enter Tryd.func26, Tryd.ntmps26
  go_wp2
  go_loopw [5] (λ i wr => ∃ k : Nat, k <= n /\ i = .int .i64 k /\ Below w.heap.size w wr /\ ∀ j, j < k -> ds[j]? = es[j]?) (λ i _ => n - (intOf i).toNat)
  case atStart => exact ⟨0, Nat.zero_le _, rfl, Below.refl _ _, λ j hj => absurd hj (by omega)⟩
  case round =>
   obtain ⟨k, hk, rfl, B, hcs⟩ := hrel
   have HC := Lib.hid hcs
   clear hcs
   by_cases hlt : k < n
   ·obtain ⟨b, off, d, hA, _, _, h3, hxk, hv0, hv1, hv2⟩ := (h.below B).deedAt hlt
    obtain ⟨b', off', e, hA', _, _, h3', hxk', hv0', hv1', hv2'⟩ := (h'.below B).deedAt hlt
    subst hA hA'
    have HX := Lib.hid hxk
    have HX' := Lib.hid hxk'
    have S0 := And.intro hv0 (And.intro hv1 (And.intro hv2 (And.intro hv0' (And.intro hv1' (And.intro hv2' B)))))
    clear hxk hxk' h h' hv0 hv1 hv2 hv0' hv1' hv2' h3 h3' B
    have i0 : (0 : Int) <= (k : Int) := by omega
    have i1 : (k : Int) < (n : Int) := by omega
    obtain ⟨t, ht⟩ : ∃ t, t = (d == e) := ⟨_, rfl⟩
    have HT := Lib.hid ht
    clear ht
    go_wp2_with fail
    go_region_held3 (λ W => W.cell? ⟨b, off + k * 3, none⟩ = some (.string d.act) /\ W.cell? ⟨b, off + k * 3 + 1, none⟩ = some (.int .i64 d.a) /\ W.cell? ⟨b, off + k * 3 + 2, none⟩ = some (.int .i64 d.b) /\ W.cell? ⟨b', off' + k * 3, none⟩ = some (.string e.act) /\ W.cell? ⟨b', off' + k * 3 + 1, none⟩ = some (.int .i64 e.a) /\ W.cell? ⟨b', off' + k * 3 + 2, none⟩ = some (.int .i64 e.b) /\ Below w.heap.size w W)
     (first | exact held6_drew S0 | exact held6_below (by assumption) (by assumption))
     (first | (go_at_call 49; refine (eqDeed_any d e _).mono ?_; rintro x w2 ⟨rfl, b2⟩; rw [<- HT.out]))
    have S2 : Below w.heap.size w w2 := by
     have S1 : w2.cell? ⟨b, off + k * 3, none⟩ = some (.string d.act) /\ w2.cell? ⟨b, off + k * 3 + 1, none⟩ = some (.int .i64 d.a) /\ w2.cell? ⟨b, off + k * 3 + 2, none⟩ = some (.int .i64 d.b) /\ w2.cell? ⟨b', off' + k * 3, none⟩ = some (.string e.act) /\ w2.cell? ⟨b', off' + k * 3 + 1, none⟩ = some (.int .i64 e.a) /\ w2.cell? ⟨b', off' + k * 3 + 2, none⟩ = some (.int .i64 e.b) /\ Below w.heap.size w w2 := by assumption
     exact S1.2.2.2.2.2.2
    clear S0
    cases t
    ·go_wp2
     go_ret
     refine ⟨ret_bool ?_, S2⟩
     symm
     rw [beq_eq_false_iff_ne]
     intro hh
     subst hh
     have := HX.out.symm.trans HX'.out
     injection this with this
     subst this
     simpa using HT.out
    ·go_wp2
     go_roundw
     case rel => exact ⟨k + 1, by omega, by go_num, S2, λ j hj => by
      by_cases e : j = k
      ·subst e; rw [HX.out, HX'.out, eq_of_beq HT.out.symm]
      ·exact HC.out j (by omega)⟩
     case measure => simp [intOf]; omega
   ·have e : k = n := by omega
    subst e
    clear h h'
    go_wp2
    go_ret
    exact ⟨ret_bool (by
     symm; rw [beq_iff_eq]; apply List.ext_getElem?; intro j
     rcases Nat.lt_or_ge j k with hj | hj
     ·exact HC.out j hj
     ·rw [List.getElem?_eq_none (by rw [hl.out]; exact hj), List.getElem?_eq_none (by rw [hl'.out]; exact hj)]), B⟩
 ·have hq : ((n : Int) != (n' : Int)) = true := by rw [bne_iff_ne]; omega
  clear h h'
  have HN := Lib.hid hne
  clear hne
  go_enter Tryd.func26, Tryd.ntmps26
  go_wp2
  go_ret
  exact ⟨ret_bool (by symm; rw [beq_eq_false_iff_ne]; intro e; exact HN.out (by rw [<- hl.out, <- hl'.out, e])), Below.refl _ _⟩
def szDeedF (l : Int) : List DeedD -> Int
 | [] => l
 | d :: ds => if l < d.act.size then -1 else szDeedF (l - d.act.size) ds
def szDeedN (l : Int) (n : Nat) (ds : List DeedD) : Int := if l < n then -1 else szDeedF (l - n) ds
theorem szDeedF_le {ds : List DeedD} : ∀ {l : Int}, 0 <= l -> szDeedF l ds <= l := by
 induction ds with
 | nil => intro l h0; rw [szDeedF]; omega
 | cons d ds ih =>
  intro l h0
  rw [szDeedF]
  split
  ·omega
  ·have := ih (l := l - d.act.size) (by omega); omega
theorem szDeedF_all {ds : List DeedD} : ∀ {l : Int}, 0 <= szDeedF l ds -> l <= 1048576 -> ∀ d ∈ ds, d.act.size <= 1048576 := by
 induction ds with
 | nil => intro l _ _ d hd; cases hd
 | cons q ds ih =>
  intro l h hl d hd
  rw [szDeedF] at h
  split at h
  ·omega
  ·rcases List.mem_cons.1 hd with e | hd
   ·subst e; omega
   ·exact ih h (by omega) d hd
theorem szDeedN_all {l : Int} {n : Nat} {ds : List DeedD} (h : 0 <= szDeedN l n ds) (hl : l <= 1048576) : n <= 1048576 /\ ∀ d ∈ ds, d.act.size <= 1048576 := by
 unfold szDeedN at h
 split at h
 ·omega
 ·exact ⟨by omega, szDeedF_all h (by omega)⟩
theorem szDeedN_le {l : Int} {n : Nat} {ds : List DeedD} (h : 0 <= l) : szDeedN l n ds <= l := by
 unfold szDeedN
 split
 ·omega
 ·have := szDeedF_le (ds := ds) (l := l - n) (by omega); omega
theorem drop_get' {α : Type} {l : List α} {k : Nat} {a : α} (h : l[k]? = some a) : l.drop k = a :: l.drop (k + 1) := by
 obtain ⟨hk, e⟩ := List.getElem?_eq_some_iff.1 h
 rw [List.drop_eq_getElem_cons hk, e]
set_option maxHeartbeats 1000000 in
theorem szDeed_any (d : DeedD) (l : Int) (w : World) (h0 : 0 <= l) (h1 : l <= 1048576) (hs : d.act.size <= maxLen) :
  Calls Tryd.prog 46 #[.agg #[.string d.act, .int .i64 d.a, .int .i64 d.b], .int .i64 l] w λ e w' => e = .returned (.int .i64 (if l < d.act.size then -1 else l - d.act.size)) /\ Below w.heap.size w w' := by
 unfold maxLen at hs
 by_cases hl : l < d.act.size
 ·rw [if_pos hl]
  have hx : l - d.act.size < 0 := by omega
  go_enter Tryd.func46, Tryd.ntmps46
  go_wp2
  go_ret
  exact ⟨rfl, below_al (Below.refl _ _) _⟩
 ·rw [if_neg hl]
  have hx : 0 <= l - d.act.size := by omega
  go_enter Tryd.func46, Tryd.ntmps46
  go_wp2
  go_ret
  exact ⟨rfl, below_al (Below.refl _ _) _⟩
set_option maxHeartbeats 1000000 in
theorem szDeedS_any (lo hi n c : Nat) (A : Option Addr) (ds : List DeedD) (l : Int) (w : World) (h : Slc w lo hi 3 A n c (deeds ds)) (hd : ∀ d ∈ ds, d.act.size <= maxLen) (h0 : 0 <= l) (h1 : l <= 1048576) :
  Calls Tryd.prog 21 #[.slice A n c, .int .i64 l] w λ e w' => e = .returned (.int .i64 (szDeedN l n ds)) /\ Below w.heap.size w w' := by
 have hc1 := h.le
 have hc2 := h.cap
 unfold maxLen at hc2
 by_cases hl : l < n
 ·have hx : l - n < 0 := by omega
  have H := Lib.hid (if_pos hl : szDeedN l n ds = -1)
  clear h
  go_enter Tryd.func21, Tryd.ntmps21
  go_wp2
  go_ret
  exact ⟨ret_int H.out.symm, Below.refl _ _⟩
 ·have hx : 0 <= l - n := by omega
  have H := Lib.hid (if_neg hl : szDeedN l n ds = szDeedF (l - n) ds)
  have HL := Lib.hid h.deedLen
  have HD := Lib.hid hd
  clear hd
  go_enter Tryd.func21, Tryd.ntmps21
  go_wp2
  go_loopw [1, 5] (λ q i wr => ∃ (k : Nat) (m : Int), k <= n /\ q = .int .i64 m /\ i = .int .i64 k /\ 0 <= m /\ m <= 1048576 /\ szDeedF m (ds.drop k) = szDeedF (l - n) ds /\ Below w.heap.size w wr) (λ _ i _ => n - (intOf i).toNat)
  case atStart => exact ⟨0, l - n, Nat.zero_le _, rfl, rfl, by omega, by omega, by simp, Below.refl _ _⟩
  case round =>
   obtain ⟨k, m, hk, rfl, rfl, m0, m1, hs, B⟩ := hrel
   by_cases hlt : k < n
   ·obtain ⟨b, off, d, rfl, _, _, h3, hxk, hv0, hv1, hv2⟩ := (h.below B).deedAt hlt
    rw [drop_get' hxk, szDeedF] at hs
    have hdl := HD.out d (List.mem_of_getElem? hxk)
    clear h hxk
    by_cases hm : m < d.act.size
    ·rw [if_pos hm] at hs
     have HS := Lib.hid hs
     clear hs
     go_wp2_with fail
     refine (szDeed_any d m _ m0 m1 hdl).mono ?_
     rintro e w1 ⟨rfl, b1⟩
     rw [if_pos hm]
     have B1 := below_step B b1
     clear hv0 hv1 hv2 b1
     go_wp2
     go_ret
     exact ⟨ret_int (HS.out.trans H.out.symm), B1⟩
    ·rw [if_neg hm] at hs
     have HS := Lib.hid hs
     clear hs
     have hmm : 0 <= m - d.act.size := by omega
     go_wp2_with fail
     refine (szDeed_any d m _ m0 m1 hdl).mono ?_
     rintro e w1 ⟨rfl, b1⟩
     rw [if_neg (by omega)]
     have B1 := below_step B b1
     clear hv0 hv1 hv2 b1
     go_wp2
     go_roundw
     case rel => exact ⟨k + 1, m - d.act.size, by omega, rfl, by go_num, by omega, by omega, HS.out, B1⟩
     case measure => simp [intOf]; omega
   ·have e : k = n := by omega
    subst e
    rw [List.drop_of_length_le (by rw [HL.out]; exact Nat.le_refl _), szDeedF] at hs
    have HS := Lib.hid hs
    clear hs h
    go_wp2
    go_ret
    exact ⟨ret_int (HS.out.trans H.out.symm), B⟩
set_option maxHeartbeats 2000000 in
set_option maxRecDepth 20000 in
theorem markDeedS_any (lo hi n c : Nat) (A : Option Addr) (xs : List Value) (k0 : Nat) (w : World) (h : OwnV 34 3 w lo hi A n c xs) (hn : n <= 1048576) (hk0 : k0 <= 10000000) :
  Calls Tryd.prog 28 #[.slice A n c, .int .i64 k0] w λ e w' => e = .returned (.int .i64 ((k0 + 3 * n : Nat) : Int)) /\ Chg lo hi w w' := by
 by_cases hn0 : n = 0
 ·subst hn0
  clear h
  go_enter Tryd.func28, Tryd.ntmps28
  go_wp2
  go_loopw [1, 5] (λ q i wr => q = .int .i64 k0 /\ i = .int .i64 0 /\ wr = w) (λ _ _ _ => 0)
  case atStart => exact ⟨rfl, rfl, rfl⟩
  case round =>
   obtain ⟨rfl, rfl, rfl⟩ := hrel
   go_wp2
   go_ret
   exact ⟨rfl, Chg.refl _ _ _⟩
 ·obtain ⟨b, cs0, rfl, hb0, hc0⟩ := h.blk (by omega)
  obtain ⟨b', off', he, hlo, hhi, hlt, _⟩ := h.slc.at_ (by omega)
  simp only [Option.some.injEq, Addr.mk.injEq, and_true] at he
  obtain ⟨rfl, rfl⟩ := he
  clear h
  have HB0 := Lib.hid hb0
  have HC0 := Lib.hid hc0
  clear hb0 hc0
  go_enter Tryd.func28, Tryd.ntmps28
  go_wp2
  go_loopw [1, 5] (λ q i wr => ∃ k : Nat, k <= n /\ q = .int .i64 ((k0 + 3 * k : Nat) : Int) /\ i = .int .i64 k /\ Chg lo hi w wr /\ ∃ cs : Array Value, wr.heap[b]? = some (.cells cs 34) /\ n * 3 <= cs.size) (λ _ i _ => n - (intOf i).toNat)
  case atStart => exact ⟨0, Nat.zero_le _, rfl, rfl, Chg.refl _ _ _, cs0, HB0.out, HC0.out⟩
  case round =>
   obtain ⟨k, hk, rfl, rfl, C, cs, hb, hcs⟩ := hrel
   by_cases hltk : k < n
   ·have HCS := Lib.hid hcs
    have hzb := blk_lt hb
    clear hcs
    go_wp2_with fail
    refine (markText_any (k0 + 3 * k) (by omega) _).mono ?_
    rintro e w1 ⟨rfl, b1⟩
    obtain ⟨hb1, z1⟩ := blk_below b1 hb
    have C1 := C.trans (Chg.of_below b1)
    have e0 := blk_cell hb1 (k * 3)
    have e1 := blk_cell hb1 (k * 3 + 1)
    have e2 := blk_cell hb1 (k * 3 + 2)
    have hf := blk_frozen' hb1
    rw [Array.getElem?_eq_getElem (by have := HCS.out; omega)] at e0 e1 e2
    have HB1 := Lib.hid hb1
    clear hb1 b1 hb C
    obtain ⟨q, hq⟩ : ∃ q, q = k0 + 3 * k := ⟨_, rfl⟩
    rw [<- hq]
    have hql : q <= 20000000 := by omega
    have HQ := Lib.hid hq
    clear hq
    go_wp2
    go_roundw
    case rel => exact ⟨k + 1, by omega, by rw [show k0 + 3 * (k + 1) = q + 3 by have := HQ.out; omega]; go_num, by go_num, ((C1.setCell hlo hhi _).setCell hlo hhi _).setCell hlo hhi _, _, blk_setCell (blk_setCell (blk_setCell HB1.out _) _) _, by simp; exact HCS.out⟩
    case measure => simp [intOf]; omega
   ·have e : k = n := by omega
    subst e
    clear hb
    go_wp2
    go_ret
    exact ⟨rfl, C⟩
end Go.Proofs.YtkfafknliihabaaDoor
namespace Go.Proofs.YtkfafknliihabaaDoor
open Go.Joins Go.ChangeShapes Go.WideShapes Go.RowKit Go.Deep
section
variable {H : Type} {enc : TypeId × Value -> H} {P : Program} {w : World} {base : Nat} {held : Bool}
theorem read_recs {α : Type} [Inhabited α] (f : α -> List Value) (Q : α -> Prop) {s : Nat} (hs : 0 < s) (hf : ∀ a, (f a).length = s) {t e : TypeId} {A : Option Addr} {len cap : Nat} {d : DataW H} {p : List MemPlace} (ht : P.underlying t = some (.slice e)) (hc : P.cellsOf e = s)
  (hel : ∀ (n : Nat) (cs : List Value) (x : DataW H × List MemPlace), DataW.trod enc P w base (λ _ => true) held n e cs = some x -> cs.length = s -> ∃ a, cs = f a /\ Q a)
  (h : DataW.Trod enc P w base (λ _ => true) held t (.slice A len cap) d p) : ∃ ds : List α, Slc w 0 w.heap.size s A len cap (ds.flatMap f) /\ ∀ d ∈ ds, Q d := by
 obtain ⟨fuel, hf'⟩ := h
 rcases open_slice ht hf' with ⟨hcs, _⟩ | ⟨a, len', cap', m, n, D, Pl, hcs, _, hl, hm, hmm, _, hx⟩
 ·simp [Value.cells] at hcs
  obtain ⟨rfl, rfl, rfl⟩ := hcs
  exact ⟨[], ⟨by simp, Nat.le_refl _, Nat.zero_le _, λ h0 => absurd h0 (by omega)⟩, λ d hd => by cases hd⟩
 ·simp [Value.cells] at hcs
  obtain ⟨rfl, rfl, rfl⟩ := hcs
  simp at hmm
  subst hmm
  rw [hc] at hx
  obtain ⟨V, hV⟩ := choose_lt (α := α) (n := len) (p := λ i v => (∀ j u, (f v)[j]? = some u -> w.cell? ((a.add (i * s)).add j) = some u) /\ Q v) (λ i hi => by
   obtain ⟨cs', h1, h2⟩ := hx i (by omega)
   obtain ⟨_, hlen, hcell⟩ := World.cells?_some h1
   obtain ⟨v, rfl, hQ⟩ := hel n cs' _ h2 hlen
   refine ⟨v, λ j u hu => ?_, hQ⟩
   have hj : j < s := by rw [<- hf v]; exact (List.getElem?_eq_some_iff.1 hu).1
   have := hcell j hj
   rw [this, hu])
  refine ⟨(List.range len).map V, ⟨by rw [flat_len f hf]; simp, hl, hm, λ h0 => ?_⟩, λ d hd => ?_⟩
  rotate_left
  ·obtain ⟨i, hi, rfl⟩ := List.mem_map.1 hd
   exact (hV i (List.mem_range.1 hi)).2
  obtain ⟨b, off, spot⟩ := a
  have hg : ∀ i, i < len -> ∀ j u, (f (V i))[j]? = some u -> w.cell? (((⟨b, off, spot⟩ : Addr).add (i * s)).add j) = some u := λ i hi => (hV i hi).1
  have hspot : spot = none := by
   obtain ⟨u, hu⟩ : ∃ u, (f (V 0))[0]? = some u := ⟨_, List.getElem?_eq_getElem (by rw [hf]; exact hs)⟩
   have h1 := hg 0 h0 0 u hu
   rw [Nat.zero_mul] at h1
   simpa [Addr.add] using World.cell?_spot h1
  subst hspot
  have hb : b < w.heap.size := by
   obtain ⟨u, hu⟩ : ∃ u, (f (V 0))[0]? = some u := ⟨_, List.getElem?_eq_getElem (by rw [hf]; exact hs)⟩
   have h1 := hg 0 h0 0 u hu
   have := World.block_lt_of_cell? w _ h1; rw [add_plain, add_plain] at this; exact this
  refine ⟨b, off, rfl, Nat.zero_le _, hb, hb, λ j v hv => ?_⟩
  obtain ⟨i, k, rfl, hk⟩ : ∃ i k, j = i * s + k /\ k < s := ⟨j / s, j % s, by rw [Nat.mul_comm]; exact (Nat.div_add_mod j s).symm, Nat.mod_lt _ hs⟩
  rw [flat_get f hf _ i k hk] at hv
  obtain ⟨x, hx1, hx2⟩ := Option.bind_eq_some_iff.1 hv
  rw [List.getElem?_map] at hx1
  obtain ⟨i', hi', rfl⟩ := Option.map_eq_some_iff.1 hx1
  have hil : i < len := by
   have := (List.getElem?_eq_some_iff.1 hi').1
   simpa using this
  have : i' = i := by rw [List.getElem?_range hil] at hi'; injection hi' with hi'; exact hi'.symm
  subst this
  have := hg i' hil k v hx2
  rw [add_plain, add_plain] at this
  rw [<- this, Nat.add_assoc]
theorem read_deeds {t e : TypeId} {f0 f1 f2 : Field} {A : Option Addr} {len cap : Nat} {d : DataW H} {p : List MemPlace} (ht : P.underlying t = some (.slice e)) (hc : P.cellsOf e = 3) (he : P.underlying e = some (.struct #[f0, f1, f2]))
  (o0 : f0.offset = 0) (o1 : f1.offset = 1) (o2 : f2.offset = 2) (h0 : P.underlying f0.type = some .string) (h1 : P.underlying f1.type = some (.int .i64)) (h2 : P.underlying f2.type = some (.int .i64)) (c0 : P.cellsOf f0.type = 1) (c1 : P.cellsOf f1.type = 1) (c2 : P.cellsOf f2.type = 1)
  (h : DataW.Trod enc P w base (λ _ => true) held t (.slice A len cap) d p) : ∃ ds : List DeedD, Slc w 0 w.heap.size 3 A len cap (deeds ds) /\ ∀ d ∈ ds, d.act.size <= maxLen := by
 letI : Inhabited DeedD := ⟨⟨⟨#[]⟩, 0, 0⟩⟩
 refine read_recs DeedD.cells (λ d => d.act.size <= maxLen) (by decide) (λ _ => rfl) ht hc ?_ h
 intro n cs x hx hl
 obtain ⟨xs, m, _, _, _, hlen, hg⟩ := DataW.trod_struct he hx
 match cs, hl with
 | [x0, x1, x2], _ =>
  match xs, hlen with
  | [y0, y1, y2], _ =>
   have g0 := hg 0 f0 rfl
   have g1 := hg 1 f1 rfl
   have g2 := hg 2 f2 rfl
   rw [o0, c0] at g0
   rw [o1, c1] at g1
   rw [o2, c2] at g2
   obtain ⟨s, e0, _, hs⟩ := DataW.trod_string h0 g0
   obtain ⟨a, e1, _, _⟩ := DataW.trod_int h1 g1
   obtain ⟨b, e2, _, _⟩ := DataW.trod_int h2 g2
   simp at e0 e1 e2
   subst e0 e1 e2
   exact ⟨⟨s, a, b⟩, rfl, hs⟩
end
end Go.Proofs.YtkfafknliihabaaDoor
namespace Go.Proofs.YtkfafknliihabaaDoor
open Go.ChangeShapes Go.WideShapes Go.ChangeAt Go.RowKit
section
variable {P : Program} {w : World} {base : Nat}
theorem slice_block {t e : TypeId} {A : Option Addr} {n c : Nat} {r : Reach} (ht : P.underlying t = some (.slice e)) (h : Value.okWide P w r base t (.slice A n c)) : ∀ a, A = some a -> a.spot = none /\ ∃ cs T fz, w.heap[a.block]? = some (.cells cs T fz) := by
 intro a e
 subst e
 simp only [Value.okWide, ht, Cell.okWide, Cell.ok, World.has] at h
 obtain ⟨_, _, _, hsp, row, cells, hsh, _⟩ := h
 refine ⟨hsp, ?_⟩
 unfold World.shape? at hsh
 split at hsh
 ·rename_i cs T fz hb
  exact ⟨cs, T, fz, hb⟩
 ·cases hsh
end
end Go.Proofs.YtkfafknliihabaaDoor
namespace Go.Proofs.YtkfafknliihabaaDoor
open Go.RowKit
section
variable {P : Program} {k : TypeId}
theorem run_equal_chan {d : ChanDir} {e : TypeId} (hk : P.underlying k = some (.chan d e)) (a b : Option Nat) (w : World) : (Op.equal k (.chan a) (.chan b)).run P w = .ok (a == b) w := by
 unfold Op.equal
 rw [show Op.maxDepth = (Op.maxDepth - 1) + 1 by decide]
 simp [Op.equalIn, run_underlying hk]
end
def EsOf (es : List MapEntry) (ps : List (Nat × Value)) : Prop := es.map (λ e => (e.key, e.val)) = ps.map (λ p => (Value.chan (some p.1), p.2))
def ChanMap (w : World) (b : Nat) (ps : List (Nat × Value)) : Prop := ∃ es clock, w.heap[b]? = some (.map es clock) /\ EsOf es.toList ps
def lookC (c : Nat) : List (Nat × Value) -> Option Value
 | [] => none
 | p :: ps => if c = p.1 then some p.2 else lookC c ps
def putC (c : Nat) (v : Value) : List (Nat × Value) -> List (Nat × Value)
 | [] => [(c, v)]
 | p :: ps => if c = p.1 then (p.1, v) :: ps else p :: putC c v ps
def findC (c : Nat) : List (Nat × Value) -> Nat -> Option (Nat × Value)
 | [], _ => none
 | p :: ps, i => if c = p.1 then some (i, p.2) else findC c ps (i + 1)
theorem EsOf.cons_inv {e : MapEntry} {es : List MapEntry} {ps : List (Nat × Value)} (h : EsOf (e :: es) ps) : ∃ p qs, ps = p :: qs /\ e.key = .chan (some p.1) /\ e.val = p.2 /\ EsOf es qs := by
 unfold EsOf at h
 cases ps with
 | nil => cases h
 | cons p qs =>
  rw [List.map_cons, List.map_cons] at h
  injection h with h1 h2
  injection h1 with h3 h4
  exact ⟨p, qs, rfl, h3, h4, h2⟩
theorem EsOf.nil_inv {ps : List (Nat × Value)} (h : EsOf [] ps) : ps = [] := by
 unfold EsOf at h; cases ps with
 | nil => rfl
 | cons p qs => cases h
section
variable {P : Program} {k : TypeId} {d : ChanDir} {e0 : TypeId}
theorem run_findAsking_chan (hk : P.underlying k = some (.chan d e0)) (c : Nat) (w : World) : ∀ (es : List MapEntry) (ps : List (Nat × Value)) (i : Nat), EsOf es ps -> (Instr.findAsking k (.chan (some c)) es i).run P w = .ok (findC c ps i) w
 | [], ps, i, h => by rw [h.nil_inv]; rfl
 | e :: es, ps, i, h => by
  obtain ⟨p, qs, rfl, h1, h2, h3⟩ := h.cons_inv
  have ih := run_findAsking_chan hk c w es qs (i + 1) h3
  unfold Instr.findAsking
  simp only [Sem.run_bind, h1, run_equal_chan hk, Result.andThen_ok]
  by_cases hc : c = p.1
  ·subst hc; simp [findC, h2]
  ·have : (some c == some p.1) = false := by rw [beq_eq_false_iff_ne]; intro h; injection h with h; exact hc h
   rw [this]
   simp only [Bool.false_eq_true, if_false, findC, if_neg hc]
   exact ih
theorem run_findKey_chan (hk : P.underlying k = some (.chan d e0)) (c : Nat) (w : World) (es : List MapEntry) (ps : List (Nat × Value)) (h : EsOf es ps) : (Instr.findKey k (.chan (some c)) es).run P w = .ok (findC c ps 0) w := by
 unfold Instr.findKey
 simp only [Sem.run_bind, run_underlying hk, Result.andThen_ok]
 cases es with
 | nil => rw [h.nil_inv]; rfl
 | cons e es =>
  have : Instr.findNow (.chan d e0) (.chan (some c)) (e :: es) 0 = none := by
   simp [Instr.findNow, Instr.sameNow]
  rw [this]
  exact run_findAsking_chan hk c w _ _ 0 h
theorem findC_look (c : Nat) : ∀ (ps : List (Nat × Value)) (i : Nat), (findC c ps i).map Prod.snd = lookC c ps
 | [], _ => rfl
 | p :: ps, i => by
  unfold findC lookC
  by_cases h : c = p.1
  ·rw [if_pos h, if_pos h]; rfl
  ·rw [if_neg h, if_neg h]; exact findC_look c ps (i + 1)
theorem run_checkKey_chan (hk : P.underlying k = some (.chan d e0)) (b : Bool) (c : Nat) (w : World) : (Instr.checkKey b 10000 k (.chan (some c))).run P w = .ok () w := by
 rw [show (10000 : Nat) = 9999 + 1 by decide]
 unfold Instr.checkKey
 simp [run_underlying hk]
theorem run_lookup_chan {t e : TypeId} (ht : P.underlying t = some (.map k e)) (hk : P.underlying k = some (.chan d e0)) {z : Value} {w : World} (hz : (zeroValue e).run P w = .ok z w) {b c : Nat} {ps : List (Nat × Value)} (h : ChanMap w b ps) (ok : Bool) :
  (Instr.lookup t (.map (some b)) (.chan (some c)) ok).run P w = .ok (if ok then .tuple #[(lookC c ps).getD z, .bool (lookC c ps).isSome] else (lookC c ps).getD z) w := by
 obtain ⟨es, clock, hb, he⟩ := h
 unfold Instr.lookup
 have hf := findC_look c ps 0
 have hg : (getObj b).run P w = .ok (.map es clock) w := by first | exact run_getObj hb | (show Sem.run P (Sem.getObj b Sem.pure) w = _; unfold Sem.run; rw [hb]; rfl) | (simp [getObj, Sem.run, hb])
 simp only [Sem.run_bind, run_underlying ht, Result.andThen_ok, hg, Sem.run_pure, run_checkKey_chan hk, run_findKey_chan hk c w _ _ he]
 cases hq : findC c ps 0 with
 | none =>
  rw [hq] at hf
  have hf' : lookC c ps = none := by simpa using hf.symm
  simp [hz, hf']
 | some q =>
  rw [hq] at hf
  have hf' : lookC c ps = some q.2 := by simpa using hf.symm
  simp [hf']
end
theorem putC_none {c : Nat} {v : Value} : ∀ {ps : List (Nat × Value)} {i : Nat}, findC c ps i = none -> putC c v ps = ps ++ [(c, v)]
 | [], _, _ => rfl
 | p :: ps, i, h => by
  unfold findC at h
  by_cases hc : c = p.1
  ·rw [if_pos hc] at h; cases h
  ·rw [if_neg hc] at h
   unfold putC
   rw [if_neg hc, putC_none h]; rfl
theorem findC_some {c : Nat} {v : Value} : ∀ {es : List MapEntry} {ps : List (Nat × Value)} {i : Nat} {q : Nat × Value}, EsOf es ps -> findC c ps i = some q ->
  ∃ j e0, q.1 = i + j /\ es[j]? = some e0 /\ e0.key = .chan (some c) /\ EsOf (es.set j { e0 with key := .chan (some c), val := v }) (putC c v ps)
 | [], ps, i, q, h, hq => by rw [h.nil_inv] at hq; cases hq
 | e :: es, ps, i, q, h, hq => by
  obtain ⟨p, qs, rfl, h1, h2, h3⟩ := h.cons_inv
  unfold findC at hq
  by_cases hc : c = p.1
  ·rw [if_pos hc] at hq
   injection hq with hq
   refine ⟨0, e, by rw [<- hq]; rfl, rfl, by rw [h1, hc], ?_⟩
   unfold putC
   rw [if_pos hc]
   unfold EsOf at h3 ⊢
   rw [List.set_cons_zero, List.map_cons, List.map_cons, h3, hc]
  ·rw [if_neg hc] at hq
   obtain ⟨j, e0, e1, e2, e3, e4⟩ := findC_some (v := v) h3 hq
   refine ⟨j + 1, e0, by rw [e1]; omega, e2, e3, ?_⟩
   unfold putC
   rw [if_neg hc]
   unfold EsOf at e4 ⊢
   rw [List.set_cons_succ, List.map_cons, List.map_cons, e4, h1, h2]
theorem run_stays_chan {P : Program} (c : Nat) (w : World) : (Instr.keyThatStays (.chan (some c)) (.chan (some c))).run P w = .ok (.chan (some c)) w := by
 unfold Instr.keyThatStays
 rw [if_pos (by simp [Instr.sameBits])]
 rfl
section
variable {P : Program} {k : TypeId} {d : ChanDir} {e0 : TypeId}
open Go.ChangeMaps in
theorem run_update_chan {t e : TypeId} (ht : P.underlying t = some (.map k e)) (hk : P.underlying k = some (.chan d e0)) {w : World} {b c : Nat} {ps : List (Nat × Value)} (h : ChanMap w b ps) (v : Value) :
  ∃ es' clock', (Instr.mapUpdate t (.map (some b)) (.chan (some c)) v).run P w = .ok () { w with heap := w.heap.setIfInBounds b (.map es' clock') } /\ ChanMap { w with heap := w.heap.setIfInBounds b (.map es' clock') } b (putC c v ps) := by
 obtain ⟨es, clock, hb, he⟩ := h
 have hz := (Array.getElem?_eq_some_iff.1 hb).1
 cases hq : findC c ps 0 with
 | none =>
  refine ⟨es.push ⟨.chan (some c), v, clock⟩, clock + 1, ?_, es.push ⟨.chan (some c), v, clock⟩, clock + 1, by simp [hz], ?_⟩
  ·simp [Instr.mapUpdate, run_underlying ht, MapKept.run_getObj_map hb, run_checkKey_chan hk, run_findKey_chan hk c w _ _ he, hq, MapKept.run_setObj_map _ hb, Result.andThen]
  ·rw [putC_none hq]
   unfold EsOf at he ⊢
   rw [Array.toList_push, List.map_append, List.map_append, he]; rfl
 | some q =>
  obtain ⟨j, x, e1, e2, e3, e4⟩ := findC_some (v := v) he hq
  have e1' : q.1 = j := by omega
  have hj : es[j]? = some x := by simpa using e2
  refine ⟨es.modify j (λ e' => { e' with key := .chan (some c), val := v }), clock, ?_, es.modify j (λ e' => { e' with key := .chan (some c), val := v }), clock, by simp [hz], ?_⟩
  ·simp [Instr.mapUpdate, run_underlying ht, MapKept.run_getObj_map hb, run_checkKey_chan hk, run_findKey_chan hk c w _ _ he, hq, e1', hj, e3, run_stays_chan, MapKept.run_setObj_map _ hb, Result.andThen]
  ·have : (es.modify j (λ e' => { e' with key := .chan (some c), val := v })).toList = es.toList.set j { x with key := .chan (some c), val := v } := by
    rw [Array.toList_modify, modify_eq_set _ _ _ _ e2]
   rw [this]; exact e4
theorem wpList_lookup_chan {ops : Array Oper} {rest : List Oper} {o : Oper} {a : Act} {Q : Exit -> Act -> World -> Prop} (w : World) (hg : o.guard = none) (m x : Operand) (t : TypeId) (ok : Bool) (hop : o.op = Op.lookup t m x ok) (e : TypeId)
  (ht : P.underlying t = some (.map k e)) (hk : P.underlying k = some (.chan d e0)) (z : Value) (hz : (zeroValue e).run P w = .ok z w) (b c : Nat) (ps : List (Nat × Value)) (hm : a.eval m = .map (some b)) (hx : a.eval x = .chan (some c)) (h : ChanMap w b ps)
  (hK : wpList P ops Q rest (a.put o.dst (if ok then .tuple #[(lookC c ps).getD z, .bool (lookC c ps).isSome] else (lookC c ps).getD z)) w) : wpList P ops Q (o :: rest) a w := by
 refine wpList_plain hg λ K' hK' => ?_
 have hrun := run_lookup_chan ht hk hz h (c := c) ok
 unfold Oper.wp
 simp [execOp, hop, hm, hx, hrun, Result.andThen]
 cases ok <;> exact hK' _ _ hK
theorem wpList_update_chan {ops : Array Oper} {rest : List Oper} {o : Oper} {a : Act} {Q : Exit -> Act -> World -> Prop} (w : World) (hg : o.guard = none) (m x y : Operand) (t : TypeId) (hop : o.op = Op.mapUpdate t m x y) (e : TypeId)
  (ht : P.underlying t = some (.map k e)) (hk : P.underlying k = some (.chan d e0)) (b c : Nat) (v : Value) (ps : List (Nat × Value)) (hm : a.eval m = .map (some b)) (hx : a.eval x = .chan (some c)) (hy : a.eval y = v) (h : ChanMap w b ps)
  (hK : ∀ w' o', w' = { w with heap := w.heap.setIfInBounds b o' } -> ChanMap w' b (putC c v ps) -> wpList P ops Q rest (a.put o.dst undef) w') : wpList P ops Q (o :: rest) a w := by
 refine wpList_plain hg λ K' hK' => ?_
 obtain ⟨es, cl, hrun, hcm⟩ := run_update_chan ht hk h (c := c) v
 unfold Oper.wp
 simp [execOp, hop, hm, hx, hy, hrun, Result.andThen]
 exact hK' _ _ (hK _ _ rfl hcm)
open Go.ChangeMaps in
theorem run_update_all {t e : TypeId} (ht : P.underlying t = some (.map k e)) (hk : P.underlying k = some (.chan d e0)) {b c : Nat} {es : Array MapEntry} {clock : Nat} {ps : List (Nat × Value)} (he : EsOf es.toList ps) :
  ∃ f : Value -> Obj, (∀ (w : World) (v : Value), w.heap[b]? = some (.map es clock) -> (Instr.mapUpdate t (.map (some b)) (.chan (some c)) v).run P w = .ok () { w with heap := w.heap.setIfInBounds b (f v) }) /\
   ∀ v, ∃ es' clock', f v = .map es' clock' /\ EsOf es'.toList (putC c v ps) := by
 cases hq : findC c ps 0 with
 | none =>
  refine ⟨λ v => .map (es.push ⟨.chan (some c), v, clock⟩) (clock + 1), λ w v hb => ?_, λ v => ⟨_, _, rfl, ?_⟩⟩
  ·simp [Instr.mapUpdate, run_underlying ht, MapKept.run_getObj_map hb, run_checkKey_chan hk, run_findKey_chan hk c w _ _ he, hq, MapKept.run_setObj_map _ hb, Result.andThen]
  ·rw [putC_none hq]
   unfold EsOf at he ⊢
   rw [Array.toList_push, List.map_append, List.map_append, he]; rfl
 | some q =>
  obtain ⟨j, x, e1, e2, e3, _⟩ := findC_some (v := .bool true) he hq
  have e1' : q.1 = j := by omega
  have hj : es[j]? = some x := by simpa using e2
  refine ⟨λ v => .map (es.modify j (λ e' => { e' with key := .chan (some c), val := v })) clock, λ w v hb => ?_, λ v => ⟨_, _, rfl, ?_⟩⟩
  ·simp [Instr.mapUpdate, run_underlying ht, MapKept.run_getObj_map hb, run_checkKey_chan hk, run_findKey_chan hk c w _ _ he, hq, e1', hj, e3, run_stays_chan, MapKept.run_setObj_map _ hb, Result.andThen]
  ·obtain ⟨j', x', f1, f2, f3, f4⟩ := findC_some (v := v) he hq
   have : j' = j := by omega
   subst this
   rw [e2] at f2; injection f2 with f2; subst f2
   have : (es.modify j' (λ e' => { e' with key := .chan (some c), val := v })).toList = es.toList.set j' { x with key := .chan (some c), val := v } := by
    rw [Array.toList_modify, modify_eq_set _ _ _ _ e2]
   rw [this]; exact f4
end
end Go.Proofs.YtkfafknliihabaaDoor
namespace Go.Proofs.YtkfafknliihabaaDoor
open Go.RowKit Go.Conc
section
variable {P : Program} {ops : Array Oper} {Q : Exit -> Act -> World -> Prop} {a : Act} {w w1 : World} {o : Oper} {rest : List Oper} {v : Value}
theorem stepG_comm_any {b : Frame} {k : List Item} {cs : List Frame} {i : Nat} {r : List Nat} {cases : Array CommCase} {blocking : Bool} {shape : CommShape} {w' : World} (ho : ops[i]? = some o) (hw : Region.wanted o (yielded ops a.tmps) = true)
  (hr : (execOp a.eval o).run P w = .ok (.comm cases blocking shape) w') :
  ∃ es, stepG P true (G (b.at a (.inRegion ops (i :: r) :: k)) cs) w = .comm (G (b.at a (.inRegion ops (i :: r) :: k)) cs) cases blocking shape w' es := by
 by_cases hk : b.kind = .early
 ·refine ⟨seen P b.fn #[], ?_⟩
  rw [stepG_oper ho hw]
  simp [stepG.apply, hr, G, Frame.at, hk, GStep.after]
 ·exact ⟨_, stepG_comm ho hw hk hr⟩
theorem wp_region_comm {id : Nat} (hops : ops.toList = o :: rest)
  (hstep : ∀ (b : Frame) (k : List Item) (cs : List Frame), step P (lone (b.at a (.inRegion ops (0 :: List.range' 1 rest.length) :: k)) cs w) = .next (lone (b.at (a.put o.dst v) (.inRegion ops (List.range' 1 rest.length) :: k)) cs w1))
  (h : wpList P ops Q rest (a.put o.dst v) w1) : (Code.region id ops false).wp P Q a w := by
 intro b k cs
 have hsz : ops.size = rest.length + 1 := by rw [<- Array.length_toList, hops]; rfl
 have hrest : wpOps P ops Q (List.range' 1 rest.length) (a.put o.dst v) w1 := by
  rw [wpOps_eq_wpList rest 1 (λ j => by rw [<- Array.getElem?_toList, hops, show 1 + j = j + 1 by omega, List.getElem?_cons_succ])]
  exact h
 obtain ⟨e, a', w', hq, harr⟩ := wp_ops _ _ _ hrest b k cs
 refine ⟨e, a', w', hq, .of_steps (.head step_region (.one ?_)) harr⟩
 rw [hsz, List.range_eq_range', List.range'_succ]
 exact hstep b k cs
variable {c cap s r : Nat} {buf : Array Value} {z z' u : Value} {tm closed : Bool} {id : Nat}
theorem finish_comm (b : Frame) (k : List Item) (hops : ops.toList = o :: rest) (v : Value) : (b.at a (.inRegion ops (0 :: List.range' 1 rest.length) :: k)).finish v = b.at (a.put o.dst v) (.inRegion ops (List.range' 1 rest.length) :: k) := by
 have : ops[0]? = some o := by rw [<- Array.getElem?_toList, hops]; rfl
 rw [Frame.finish_at, this]; rfl
theorem first_op (hops : ops.toList = o :: rest) : ops[0]? = some o := by rw [<- Array.getElem?_toList, hops]; rfl
theorem wanted_none (hg : o.guard = none) : Region.wanted o (yielded ops a.tmps) = true := by simp [Region.wanted, hg]
theorem wp_select_recv_buf (hops : ops.toList = o :: rest) (hg : o.guard = none) (hr : (execOp a.eval o).run P w = .ok (.comm #[rcase c z] false .select) w) (hc : w.heap[c]? = some (.chan cap buf closed s r tm)) (hsome : 0 < buf.size)
  (h : wpList P ops Q rest (a.put o.dst (.tuple #[goInt 0, .bool true, buf.getD 0 undef])) (w.setChan c cap (buf.extract 1 buf.size) closed s (r + 1) tm)) : (Code.region id ops false).wp P Q a w := by
 refine wp_region_comm hops (λ b k cs => ?_) h
 obtain ⟨es, he⟩ := stepG_comm_any (b := b) (k := k) (cs := cs) (i := 0) (r := List.range' 1 rest.length) (first_op hops) (wanted_none hg) hr
 rw [<- finish_comm b k hops]
 exact step_lone_select_recv_buf he hc hsome
theorem wp_select_recv_shut (hops : ops.toList = o :: rest) (hg : o.guard = none) (hr : (execOp a.eval o).run P w = .ok (.comm #[rcase c z] false .select) w) (hc : w.heap[c]? = some (.chan cap #[] true s r tm))
  (h : wpList P ops Q rest (a.put o.dst (.tuple #[goInt 0, .bool false, z])) w) : (Code.region id ops false).wp P Q a w := by
 refine wp_region_comm hops (λ b k cs => ?_) h
 obtain ⟨es, he⟩ := stepG_comm_any (b := b) (k := k) (cs := cs) (i := 0) (r := List.range' 1 rest.length) (first_op hops) (wanted_none hg) hr
 rw [<- finish_comm b k hops]
 exact step_lone_select_recv_shut he hc
theorem wp_select_recv_empty (hops : ops.toList = o :: rest) (hg : o.guard = none) (hr : (execOp a.eval o).run P w = .ok (.comm #[rcase c z] false .select) w) (hc : w.heap[c]? = some (.chan cap #[] false s r tm))
  (h : wpList P ops Q rest (a.put o.dst (.tuple #[goInt (-1), .bool false, z])) w) : (Code.region id ops false).wp P Q a w := by
 refine wp_region_comm hops (λ b k cs => ?_) h
 obtain ⟨es, he⟩ := stepG_comm_any (b := b) (k := k) (cs := cs) (i := 0) (r := List.range' 1 rest.length) (first_op hops) (wanted_none hg) hr
 rw [<- finish_comm b k hops]
 exact step_lone_select_default he hc
theorem wp_select_send_room (hops : ops.toList = o :: rest) (hg : o.guard = none) (hr : (execOp a.eval o).run P w = .ok (.comm #[scase c u z'] false .select) w) (hc : w.heap[c]? = some (.chan cap buf false s r tm)) (hroom : buf.size < cap)
  (h : wpList P ops Q rest (a.put o.dst (.tuple #[goInt 0, .bool false])) (w.setChan c cap (buf.push u) false (s + 1) r tm)) : (Code.region id ops false).wp P Q a w := by
 refine wp_region_comm hops (λ b k cs => ?_) h
 obtain ⟨es, he⟩ := stepG_comm_any (b := b) (k := k) (cs := cs) (i := 0) (r := List.range' 1 rest.length) (first_op hops) (wanted_none hg) hr
 rw [<- finish_comm b k hops]
 exact step_lone_select_send_room he hc hroom
theorem wp_select_send_full (hops : ops.toList = o :: rest) (hg : o.guard = none) (hr : (execOp a.eval o).run P w = .ok (.comm #[scase c u z'] false .select) w) (hc : w.heap[c]? = some (.chan cap buf false s r tm)) (hfull : cap <= buf.size)
  (h : wpList P ops Q rest (a.put o.dst (.tuple #[goInt (-1), .bool false])) w) : (Code.region id ops false).wp P Q a w := by
 refine wp_region_comm hops (λ b k cs => ?_) h
 obtain ⟨es, he⟩ := stepG_comm_any (b := b) (k := k) (cs := cs) (i := 0) (r := List.range' 1 rest.length) (first_op hops) (wanted_none hg) hr
 rw [<- finish_comm b k hops]
 exact step_lone_select_send_full he hc hfull
end
end Go.Proofs.YtkfafknliihabaaDoor
namespace Go.Proofs.YtkfafknliihabaaDoor
def putA : List UInt8 := [112, 117, 116]
def takeA : List UInt8 := [116, 97, 107, 101]
def endA : List UInt8 := [101, 110, 100]
def lookA : List UInt8 := [108, 111, 111, 107]
def deedP (lines : Int) (d : DeedD) : Prop :=
 (d.act.toList = putA \/ d.act.toList = takeA \/ d.act.toList = endA \/ d.act.toList = lookA) /\ 0 <= d.a /\ d.a <= lines /\ 0 <= d.b /\ d.b <= 1000 /\ (d.act.toList = putA \/ d.b = 0)
instance (lines : Int) (d : DeedD) : Decidable (deedP lines d) := by unfold deedP; infer_instance
def deedB (lines : Int) (d : DeedD) : Bool := decide (deedP lines d)
def roomB (x : Int) : Bool := inB x 0 8
def roomsB (rooms : List Int) : Bool := decide (1 <= rooms.length /\ rooms.length <= 6) && rooms.all roomB
def deedsB (rooms : List Int) (ds : List DeedD) : Bool := roomsB rooms && decide (ds.length <= 60) && ds.all (deedB rooms.length)
structure Ln where
 room : Int
 held : List Int
 ended : Bool
 taken : List Int
def tNever : List UInt8 := [110, 101, 118, 101, 114]
def tEnded : List UInt8 := [101, 110, 100, 101, 100]
def tEmpty : List UInt8 := [101, 109, 112, 116, 121]
def tEnd : List UInt8 := [101, 110, 100]
def tFull : List UInt8 := [102, 117, 108, 108]
def tPut : List UInt8 := [112, 117, 116]
def tTook (x : Int) : List UInt8 := [116, 111, 111, 107, 32] ++ Lib.itoa x
def doneF (l : Ln) (d : DeedD) : Ln × List UInt8 :=
 if d.act.toList = lookA then (l, Lib.itoa l.held.length)
 else if d.a = 0 then (l, tNever)
 else match d.act.toList == takeA, l.held with
  | true, x :: xs => ({ l with held := xs, taken := l.taken ++ [x] }, tTook x)
  | t, h =>
   if l.ended then (l, tEnded)
   else if t then (l, tEmpty)
   else if d.act.toList = endA then ({ l with ended := true }, tEnd)
   else if l.room <= h.length then (l, tFull)
   else ({ l with held := h ++ [d.b] }, tPut)
def openF (rooms : List Int) : List Ln := ⟨0, [], false, []⟩ :: rooms.map λ r => ⟨r, [], false, []⟩
def stepF (s : List Ln × List (List UInt8)) (d : DeedD) : List Ln × List (List UInt8) :=
 let r := doneF (s.1.getD d.a.toNat ⟨0, [], false, []⟩) d
 (s.1.set d.a.toNat r.1, s.2 ++ [r.2])
def runF (rooms : List Int) (ds : List DeedD) : List Ln × List (List UInt8) := ds.foldl stepF (openF rooms, [])
theorem runF_take {rooms : List Int} {ds : List DeedD} {k : Nat} {d : DeedD} (h : ds[k]? = some d) : runF rooms (ds.take (k + 1)) = stepF (runF rooms (ds.take k)) d := by
 obtain ⟨hk, e⟩ := List.getElem?_eq_some_iff.1 h
 unfold runF
 rw [List.take_succ_eq_append_getElem hk, List.foldl_append, e]; rfl
theorem openF_len (rooms : List Int) : (openF rooms).length = rooms.length + 1 := by simp [openF]
theorem stepF_len (s : List Ln × List (List UInt8)) (d : DeedD) : (stepF s d).1.length = s.1.length := by simp [stepF]
theorem runF_len (rooms : List Int) (ds : List DeedD) : (runF rooms ds).1.length = rooms.length + 1 /\ (runF rooms ds).2.length = ds.length := by
 unfold runF
 have : ∀ (ds : List DeedD) (s : List Ln × List (List UInt8)), (ds.foldl stepF s).1.length = s.1.length /\ (ds.foldl stepF s).2.length = s.2.length + ds.length := by
  intro ds
  induction ds with
  | nil => intro s; simp
  | cons d ds ih =>
   intro s
   rw [List.foldl_cons]
   obtain ⟨h1, h2⟩ := ih (stepF s d)
   refine ⟨by rw [h1, stepF_len], ?_⟩
   rw [h2]; simp [stepF]; omega
 obtain ⟨h1, h2⟩ := this ds (openF rooms, [])
 exact ⟨by rw [h1]; exact openF_len rooms, by rw [h2]; simp⟩
theorem deedB_of {lines : Int} {d : DeedD} (h : deedB lines d = true) : deedP lines d := by simpa [deedB] using h
theorem deedsB_of {rooms : List Int} {ds : List DeedD} (h : deedsB rooms ds = true) : (1 <= rooms.length /\ rooms.length <= 6) /\ (∀ r ∈ rooms, 0 <= r /\ r <= 8) /\ ds.length <= 60 /\ ∀ d ∈ ds, deedP rooms.length d := by
 unfold deedsB roomsB at h
 simp only [Bool.and_eq_true, decide_eq_true_eq, List.all_eq_true] at h
 obtain ⟨⟨⟨h1, h2⟩, h3⟩, h4⟩ := h
 exact ⟨h1, λ r hr => by have := h2 r hr; simpa [roomB, inB] using this, h3, λ d hd => deedB_of (h4 d hd)⟩
end Go.Proofs.YtkfafknliihabaaDoor
namespace Go.Proofs.YtkfafknliihabaaDoor
open Go.RowKit
theorem dec_big {u : Nat} (h : 9 < u) : Lib.decDigits u = Lib.decDigits (u / 10) ++ [UInt8.ofNat (48 + u % 10)] := by
 rw [Lib.decDigits, dif_neg (by omega)]
set_option maxHeartbeats 1000000 in
set_option maxRecDepth 20000 in
theorem l11Dec_any (k : Nat) (hk : k <= 100000000) (w : World) :
  Calls Tryd.prog 92 #[.int .i64 k] w λ e w' => e = .returned (.string ⟨(Lib.itoa k).toArray⟩) /\ Below w.heap.size w w' := by
 have hI := Lib.hid (Lib.itoa_nonneg k)
 go_enter Tryd.func92, Tryd.ntmps92
 go_wp2
 go_loopw [0, 3] (λ a s wr => ∃ (u : Nat) (l : List UInt8), a = .int .i64 u /\ s = .string ⟨l.toArray⟩ /\ u <= 100000000 /\ Lib.decDigits u ++ l = Lib.decDigits k /\ Below w.heap.size w wr) (λ a _ _ => (intOf a).toNat)
 case atStart => exact ⟨k, [], rfl, rfl, hk, List.append_nil _, Below.refl _ _⟩
 case round =>
  obtain ⟨u, l, rfl, rfl, hu, hl, B⟩ := hrel
  have HL := Lib.hid hl
  clear hl
  have hll : l.length <= 20 := by have := congrArg List.length HL.out; rw [List.length_append] at this; have := dec_len (k := k) (by omega); omega
  by_cases hlt : 9 < u
  ·have hcv := cv1 wr (48 + u % 10) (by omega)
   rw [show ((48 + u % 10 : Nat) : Int) = 48 + (u : Int) % 10 by omega] at hcv
   have HD := Lib.hid (dec_big hlt)
   go_wp2
   go_roundw
   case rel => exact ⟨u / 10, UInt8.ofNat (48 + u % 10) :: l, by first | rfl | (congr 1; omega), by rw [bytes_app]; simp, by omega, by rw [<- HL.out, HD.out]; simp, below_al B _⟩
   case measure => simp [intOf]; omega
  ·have hcv := cv1 wr (48 + u) (by omega)
   rw [show ((48 + u : Nat) : Int) = 48 + (u : Int) by omega] at hcv
   have HT := Lib.hid (show (⟨[UInt8.ofNat (48 + u)].toArray⟩ : ByteArray) ++ ⟨l.toArray⟩ = ⟨(Lib.itoa k).toArray⟩ by rw [bytes_app, hI.out, <- HL.out, Lib.decDigits_one (by omega)]; simp)
   go_wp2
   go_ret
   exact ⟨congrArg (λ x => Ending.returned (Value.string x)) (by rw [<- HT.out]; simp), below_al B _⟩
end Go.Proofs.YtkfafknliihabaaDoor
namespace Go.Proofs.YtkfafknliihabaaDoor
open Go.RowKit
def txt (l : List UInt8) : Value := .string ⟨l.toArray⟩
def txts (ss : List (List UInt8)) : List Value := ss.map txt
end Go.Proofs.YtkfafknliihabaaDoor
namespace Go.Proofs.YtkfafknliihabaaDoor
open Go.RowKit
structure LnV where
 room : Int
 AH : Option Addr
 nH : Nat
 cH : Nat
 ended : Bool
 AT : Option Addr
 nT : Nat
 cT : Nat
def LnV.cells (v : LnV) : List Value := [.int .i64 v.room, .slice v.AH v.nH v.cH, .bool v.ended, .slice v.AT v.nT v.cT]
structure LnOk (w : World) (P : Nat -> Prop) (v : LnV) (l : Ln) : Prop where
 room : v.room = l.room
 ended : v.ended = l.ended
 held : Slc w 0 w.heap.size 1 v.AH v.nH v.cH (ints l.held)
 taken : Slc w 0 w.heap.size 1 v.AT v.nT v.cT (ints l.taken)
 heldP : ∀ b off, 0 < v.nH -> v.AH = some ⟨b, off, none⟩ -> P b
 takenP : ∀ b off, 0 < v.nT -> v.AT = some ⟨b, off, none⟩ -> P b
theorem LnOk.below {w w' : World} {P : Nat -> Prop} {v : LnV} {l : Ln} (h : LnOk w P v l) (hb : Below w.heap.size w w') : LnOk w' P v l :=
 ⟨h.room, h.ended, (h.held.below hb).wide (Nat.le_refl _) hb.size, (h.taken.below hb).wide (Nat.le_refl _) hb.size, h.heldP, h.takenP⟩
theorem Slc.inP {w : World} {lo hi s n c : Nat} {A : Option Addr} {xs : List Value} {P : Nat -> Prop} (h : Slc w lo hi s A n c xs) (hP : ∀ b, lo <= b -> P b) : ∀ b off, 0 < n -> A = some ⟨b, off, none⟩ -> P b := by
 intro b off hn e
 obtain ⟨b', off', e', h1, _⟩ := h.at_ hn
 rw [e] at e'; injection e' with e'; injection e' with e1 e2; subst e1
 exact hP _ h1
structure LnSmall (l : Ln) : Prop where
 held : l.held.length <= 1000
 taken : l.taken.length <= 1000
 words : ∀ x ∈ l.held, 0 <= x /\ x <= 1000
def LnV.full (v : LnV) : Prop := (∃ b off, v.AH = some ⟨b, off, none⟩) /\ ∃ b off, v.AT = some ⟨b, off, none⟩
def DoneSays (w : World) (P : Nat -> Prop) (v : LnV) (l : Ln) (d : DeedD) (e : Ending) (w' : World) : Prop :=
 ∃ v' : LnV, e = .returned (.tuple #[.agg v'.cells.toArray, .string ⟨(doneF l d).2.toArray⟩]) /\ LnOk w' P v' (doneF l d).1 /\ Below w.heap.size w w' /\ (v.full -> v'.full)
set_option maxHeartbeats 2000000 in
theorem done_look (v : LnV) (l : Ln) (d : DeedD) (w : World) (P : Nat -> Prop) (h : LnOk w P v l) (hs : LnSmall l) (hd : d.act.toList = lookA) :
  Calls Tryd.prog 59 #[.agg #[.int .i64 v.room, .slice v.AH v.nH v.cH, .bool v.ended, .slice v.AT v.nT v.cT], .agg #[.string d.act, .int .i64 d.a, .int .i64 d.b]] w (DoneSays w P v l d) := by
 have hF : doneF l d = (l, Lib.itoa l.held.length) := by unfold doneF; rw [if_pos hd]
 have HF := Lib.hid hF
 have hn := h.held.length
 have hs1 := hs.held
 rw [hn] at hs1
 have HN := Lib.hid hn
 have HO := Lib.hid h
 clear hF hn h hs
 obtain ⟨s, x, y⟩ := d
 obtain ⟨r, A, n, c, t, A', n', c'⟩ := v
 have hd' : (s.toList == [108, 111, 111, 107]) = true := by rw [beq_iff_eq]; exact hd
 clear hd
 have hs2 : n <= 100000000 := Nat.le_trans hs1 (by omega)
 clear hs1
 go_enter Tryd.func59, Tryd.ntmps59
 go_wp2_with fail
 obtain ⟨W, hW⟩ : ∃ W, W = ((w.alloc (.cells #[.int .i64 r, .slice A n c, .bool t, .slice A' n' c'] 102)).alloc (.cells #[.string s, .int .i64 x, .int .i64 y] 34)).alloc (.cells #[.int .i64 0, .slice none 0 0, .bool false, .slice none 0 0] 102) := ⟨_, rfl⟩
 rw [<- hW]
 have kl : W.heap[w.heap.size]? = some (.cells #[.int .i64 r, .slice A n c, .bool t, .slice A' n' c'] 102) := by rw [hW]; exact blk_alloc (blk_alloc (heap_alloc_new _ _) _) _
 have kr : W.heap[w.heap.size + 1 + 1]? = some (.cells #[.int .i64 0, .slice none 0 0, .bool false, .slice none 0 0] 102) := by rw [hW]; exact heap_new' _ _ (by simp)
 have B : Below w.heap.size w W := by rw [hW]; exact below_al (below_al (below_al (Below.refl _ _) _) _) _
 have zr := blk_lt kr
 clear hW
 have el := blk_cell kl
 have er := blk_cell kr
 have fr := blk_frozen' kr
 go_region_with (first
  | (go_at_call 92; refine (l11Dec_any n hs2 _).mono ?_; rintro e W2 ⟨rfl, b2⟩; obtain ⟨kl, zl⟩ := blk_below b2 (by first | exact kl | (apply blk_drew; exact kl)); obtain ⟨kr, zr⟩ := blk_below b2 (by first | exact kr | (apply blk_drew; exact kr)); have el := blk_cell kl; have er := blk_cell kr; have fr := blk_frozen' kr; have B := below_step (by first | exact B | (apply below_drew; exact B)) b2))
 all_goals
  go_wp2
  refine bodyPost_ret (v := .tuple #[.agg #[.int .i64 r, .slice A n c, .bool t, .slice A' n' c'], .string ⟨(Lib.itoa n).toArray⟩]) ?_ rfl ⟨⟨r, A, n, c, t, A', n', c'⟩, ?_, ?_, ?_, λ hf => hf⟩
  ·simp [results, Tryd.results59, go_sem, er]
  ·rw [HF.out, HN.out]; rfl
  ·rw [HF.out]; exact HO.out.below (((((B.setCell (by simp; omega) _).setCell (by simp; omega) _).setCell (by simp; omega) _).setCell (by simp; omega) _))
  ·exact ((((B.setCell (by simp; omega) _).setCell (by simp; omega) _).setCell (by simp; omega) _).setCell (by simp; omega) _)
set_option maxHeartbeats 2000000 in
theorem done_never (v : LnV) (l : Ln) (d : DeedD) (w : World) (P : Nat -> Prop) (h : LnOk w P v l) (hs : LnSmall l) (hl : ¬ d.act.toList = lookA) (hd : d.a = 0) :
  Calls Tryd.prog 59 #[.agg #[.int .i64 v.room, .slice v.AH v.nH v.cH, .bool v.ended, .slice v.AT v.nT v.cT], .agg #[.string d.act, .int .i64 d.a, .int .i64 d.b]] w (DoneSays w P v l d) := by
 have hF : doneF l d = (l, tNever) := by
  unfold doneF; rw [if_neg hl, if_pos hd]
 have HF := Lib.hid hF
 have hn := h.held.length
 have hs1 := hs.held
 rw [hn] at hs1
 have hro := h.room
 have hen := h.ended
 have HO := Lib.hid h
 clear hF h hs
 obtain ⟨s, x, y⟩ := d
 obtain ⟨r, A, n, c, t, A', n', c'⟩ := v
 obtain ⟨lr, lh, le, lt⟩ := l
 subst hro hen
 have h1 : (s.toList == [108, 111, 111, 107]) = false := by rw [beq_eq_false_iff_ne]; exact hl
 have hx : x = 0 := hd
 subst hx
 clear hl hd
 go_enter Tryd.func59, Tryd.ntmps59
 go_wp2
 refine bodyPost_ret (v := .tuple #[.agg #[.int .i64 r, .slice A n c, .bool t, .slice A' n' c'], .string ⟨tNever.toArray⟩]) ?_ rfl ⟨⟨r, A, n, c, t, A', n', c'⟩, ?_, ?_, ?_, λ hf => hf⟩
 ·simp [results, Tryd.results59, go_sem, tNever]
 ·rw [HF.out]; rfl
 ·rw [HF.out]; exact HO.out.below (below_al (below_al (below_al (Below.refl _ _) _) _) _)
 ·exact (below_al (below_al (below_al (Below.refl _ _) _) _) _)
set_option maxHeartbeats 2000000 in
theorem done_ended (v : LnV) (l : Ln) (d : DeedD) (w : World) (P : Nat -> Prop) (h : LnOk w P v l) (hs : LnSmall l) (hl : ¬ d.act.toList = lookA) (hd : ¬ d.a = 0) (ht : d.act.toList = takeA -> l.held = []) (he : l.ended = true) :
  Calls Tryd.prog 59 #[.agg #[.int .i64 v.room, .slice v.AH v.nH v.cH, .bool v.ended, .slice v.AT v.nT v.cT], .agg #[.string d.act, .int .i64 d.a, .int .i64 d.b]] w (DoneSays w P v l d) := by
 have hF : doneF l d = (l, tEnded) := by
  unfold doneF; rw [if_neg hl, if_neg hd]
  cases hb : (d.act.toList == takeA)
  ·simp [he]
  ·rw [ht (eq_of_beq hb)]; simp [he]
 have HF := Lib.hid hF
 have hn := h.held.length
 have hs1 := hs.held
 rw [hn] at hs1
 have hro := h.room
 have hen := h.ended
 have HO := Lib.hid h
 clear hF h hs
 obtain ⟨s, x, y⟩ := d
 obtain ⟨r, A, n, c, t, A', n', c'⟩ := v
 obtain ⟨lr, lh, le, lt⟩ := l
 subst hro hen
 have h1 : (s.toList == [108, 111, 111, 107]) = false := by rw [beq_eq_false_iff_ne]; exact hl
 have h2 : (x == 0) = false := by rw [beq_eq_false_iff_ne]; exact hd
 have he' : t = true := he
 subst he'
 have h3 : ((s.toList == [116, 97, 107, 101]) = true /\ n = 0) \/ (s.toList == [116, 97, 107, 101]) = false := by
  cases hb : (s.toList == [116, 97, 107, 101])
  ·exact .inr rfl
  ·exact .inl ⟨rfl, by have := ht (eq_of_beq hb); simp only at this; subst this; simpa using hn.symm⟩
 clear hl hd ht he hn
 rcases h3 with ⟨h3, rfl⟩ | h3
 ·go_enter Tryd.func59, Tryd.ntmps59
  go_wp2
  refine bodyPost_ret (v := .tuple #[.agg #[.int .i64 r, .slice A 0 c, .bool true, .slice A' n' c'], .string ⟨tEnded.toArray⟩]) ?_ rfl ⟨⟨r, A, 0, c, true, A', n', c'⟩, ?_, ?_, ?_, λ hf => hf⟩
  ·simp [results, Tryd.results59, go_sem, tEnded]
  ·rw [HF.out]; rfl
  ·rw [HF.out]; exact HO.out.below (below_al (below_al (below_al (Below.refl _ _) _) _) _)
  ·exact (below_al (below_al (below_al (Below.refl _ _) _) _) _)
 ·go_enter Tryd.func59, Tryd.ntmps59
  go_wp2
  refine bodyPost_ret (v := .tuple #[.agg #[.int .i64 r, .slice A n c, .bool true, .slice A' n' c'], .string ⟨tEnded.toArray⟩]) ?_ rfl ⟨⟨r, A, n, c, true, A', n', c'⟩, ?_, ?_, ?_, λ hf => hf⟩
  ·simp [results, Tryd.results59, go_sem, tEnded]
  ·rw [HF.out]; rfl
  ·rw [HF.out]; exact HO.out.below (below_al (below_al (below_al (Below.refl _ _) _) _) _)
  ·exact (below_al (below_al (below_al (Below.refl _ _) _) _) _)
set_option maxHeartbeats 2000000 in
theorem done_empty (v : LnV) (l : Ln) (d : DeedD) (w : World) (P : Nat -> Prop) (h : LnOk w P v l) (hs : LnSmall l) (hd : ¬ d.a = 0) (ht : d.act.toList = takeA) (hh : l.held = []) (he : l.ended = false) :
  Calls Tryd.prog 59 #[.agg #[.int .i64 v.room, .slice v.AH v.nH v.cH, .bool v.ended, .slice v.AT v.nT v.cT], .agg #[.string d.act, .int .i64 d.a, .int .i64 d.b]] w (DoneSays w P v l d) := by
 have hF : doneF l d = (l, tEmpty) := by
  unfold doneF
  rw [if_neg (by rw [ht]; simp [takeA, lookA]), if_neg hd, ht, hh]; simp [he]
 have HF := Lib.hid hF
 have hn := h.held.length
 have hs1 := hs.held
 rw [hn] at hs1
 have hro := h.room
 have hen := h.ended
 have HO := Lib.hid h
 clear hF h hs
 obtain ⟨s, x, y⟩ := d
 obtain ⟨r, A, n, c, t, A', n', c'⟩ := v
 obtain ⟨lr, lh, le, lt⟩ := l
 subst hro hen
 have hs' : s.toList = takeA := ht
 have h1 : (s.toList == [108, 111, 111, 107]) = false := by rw [hs']; rfl
 have h2 : (x == 0) = false := by rw [beq_eq_false_iff_ne]; exact hd
 have h3 : (s.toList == [116, 97, 107, 101]) = true := by rw [hs']; rfl
 have he' : t = false := he
 have hh' : lh = [] := hh
 subst he' hh'
 have hn' : n = 0 := by simpa using hn.symm
 subst hn'
 clear hd ht he hh hn hs'
 go_enter Tryd.func59, Tryd.ntmps59
 go_wp2
 refine bodyPost_ret (v := .tuple #[.agg #[.int .i64 r, .slice A 0 c, .bool false, .slice A' n' c'], .string ⟨tEmpty.toArray⟩]) ?_ rfl ⟨⟨r, A, 0, c, false, A', n', c'⟩, ?_, ?_, ?_, λ hf => hf⟩
 ·simp [results, Tryd.results59, go_sem, tEmpty]
 ·rw [HF.out]; rfl
 ·rw [HF.out]; exact HO.out.below (below_al (below_al (below_al (Below.refl _ _) _) _) _)
 ·exact (below_al (below_al (below_al (Below.refl _ _) _) _) _)
set_option maxHeartbeats 2000000 in
theorem done_end (v : LnV) (l : Ln) (d : DeedD) (w : World) (P : Nat -> Prop) (h : LnOk w P v l) (hs : LnSmall l) (hd : ¬ d.a = 0) (ht : d.act.toList = endA) (he : l.ended = false) :
  Calls Tryd.prog 59 #[.agg #[.int .i64 v.room, .slice v.AH v.nH v.cH, .bool v.ended, .slice v.AT v.nT v.cT], .agg #[.string d.act, .int .i64 d.a, .int .i64 d.b]] w (DoneSays w P v l d) := by
 have hF : doneF l d = ({ l with ended := true }, tEnd) := by
  unfold doneF
  rw [if_neg (by rw [ht]; simp [endA, lookA]), if_neg hd, ht]
  cases l.held <;> simp [he, endA, takeA]
 have HF := Lib.hid hF
 have hn := h.held.length
 have hs1 := hs.held
 rw [hn] at hs1
 have hro := h.room
 have hen := h.ended
 have HO := Lib.hid h
 clear hF h hs
 obtain ⟨s, x, y⟩ := d
 obtain ⟨r, A, n, c, t, A', n', c'⟩ := v
 obtain ⟨lr, lh, le, lt⟩ := l
 subst hro hen
 have hs' : s.toList = endA := ht
 have h1 : (s.toList == [108, 111, 111, 107]) = false := by rw [hs']; rfl
 have h2 : (x == 0) = false := by rw [beq_eq_false_iff_ne]; exact hd
 have h3 : (s.toList == [116, 97, 107, 101]) = false := by rw [hs']; rfl
 have h4 : (s.toList == [101, 110, 100]) = true := by rw [hs']; rfl
 have he' : t = false := he
 subst he'
 clear hd ht he hs' hn
 go_enter Tryd.func59, Tryd.ntmps59
 go_wp2
 refine bodyPost_ret (v := .tuple #[.agg #[.int .i64 r, .slice A n c, .bool true, .slice A' n' c'], .string ⟨tEnd.toArray⟩]) ?_ rfl ⟨⟨r, A, n, c, true, A', n', c'⟩, ?_, ?_, ?_, λ hf => hf⟩
 ·simp [results, Tryd.results59, go_sem, tEnd]
 ·rw [HF.out]; rfl
 ·rw [HF.out]; exact ⟨rfl, rfl, (HO.out.below (below_al (below_al (below_al (Below.refl _ _) _) _) _)).held, (HO.out.below (below_al (below_al (below_al (Below.refl _ _) _) _) _)).taken, HO.out.heldP, HO.out.takenP⟩
 ·exact (below_al (below_al (below_al (Below.refl _ _) _) _) _)
set_option maxHeartbeats 2000000 in
theorem done_full (v : LnV) (l : Ln) (d : DeedD) (w : World) (P : Nat -> Prop) (h : LnOk w P v l) (hs : LnSmall l) (hd : ¬ d.a = 0) (ht : d.act.toList = putA) (he : l.ended = false) (hr : l.room <= l.held.length) :
  Calls Tryd.prog 59 #[.agg #[.int .i64 v.room, .slice v.AH v.nH v.cH, .bool v.ended, .slice v.AT v.nT v.cT], .agg #[.string d.act, .int .i64 d.a, .int .i64 d.b]] w (DoneSays w P v l d) := by
 have hF : doneF l d = (l, tFull) := by
  unfold doneF
  rw [if_neg (by rw [ht]; simp [putA, lookA]), if_neg hd, ht]
  cases hc : l.held <;> (rw [hc] at hr; simp [he, putA, takeA, endA]; simp at hr; intro hx; omega)
 have HF := Lib.hid hF
 have hn := h.held.length
 have hs1 := hs.held
 rw [hn] at hs1
 have hro := h.room
 have hen := h.ended
 have HO := Lib.hid h
 clear hF h hs
 obtain ⟨s, x, y⟩ := d
 obtain ⟨r, A, n, c, t, A', n', c'⟩ := v
 obtain ⟨lr, lh, le, lt⟩ := l
 subst hro hen
 have hs' : s.toList = putA := ht
 have h1 : (s.toList == [108, 111, 111, 107]) = false := by rw [hs']; rfl
 have h2 : (x == 0) = false := by rw [beq_eq_false_iff_ne]; exact hd
 have h3 : (s.toList == [116, 97, 107, 101]) = false := by rw [hs']; rfl
 have h4 : (s.toList == [101, 110, 100]) = false := by rw [hs']; rfl
 have he' : t = false := he
 subst he'
 have hr' : r <= n := by have h0 := hr; have h9 := hn; simp only at h0 h9; omega
 clear hd ht he hs' hn hr
 go_enter Tryd.func59, Tryd.ntmps59
 go_wp2
 refine bodyPost_ret (v := .tuple #[.agg #[.int .i64 r, .slice A n c, .bool false, .slice A' n' c'], .string ⟨tFull.toArray⟩]) ?_ rfl ⟨⟨r, A, n, c, false, A', n', c'⟩, ?_, ?_, ?_, λ hf => hf⟩
 ·simp [results, Tryd.results59, go_sem, tFull]
 ·rw [HF.out]; rfl
 ·rw [HF.out]; exact HO.out.below (below_al (below_al (below_al (Below.refl _ _) _) _) _)
 ·exact (below_al (below_al (below_al (Below.refl _ _) _) _) _)
end Go.Proofs.YtkfafknliihabaaDoor
namespace Go.Proofs.YtkfafknliihabaaDoor
open Go.RowKit
theorem ln_two {w2 w' : World} {P : Nat -> Prop} {a H : Nat} {v : LnV} {l : Ln} (hr : v.room = l.room) (he : v.ended = l.ended) (hh : Slc w2 H w2.heap.size 1 v.AH v.nH v.cH (ints l.held)) (ht : Slc w2 0 a 1 v.AT v.nT v.cT (ints l.taken))
  (htP : ∀ b off, 0 < v.nT -> v.AT = some ⟨b, off, none⟩ -> P b) (hP : ∀ b, H <= b -> P b) (ha : a <= w2.heap.size) (hk : Chg a H w2 w') : LnOk w' P v l :=
 ⟨hr, he, (hh.chg hk (.inr (Nat.le_refl _))).wide (Nat.zero_le _) hk.size, (ht.chg hk (.inl (Nat.le_refl _))).wide (Nat.le_refl _) (Nat.le_trans ha hk.size), hh.inP hP, htP⟩
theorem ints_snoc (xs : List Int) (y : Int) : ints xs ++ [.int .i64 y] = ints (xs ++ [y]) := by simp [ints]
set_option maxHeartbeats 4000000 in
theorem done_put (v : LnV) (l : Ln) (d : DeedD) (w : World) (P : Nat -> Prop) (h : LnOk w P v l) (hs : LnSmall l) (hd : ¬ d.a = 0) (ht : d.act.toList = putA) (he : l.ended = false) (hr : ¬ l.room <= l.held.length) (hP : ∀ b, w.heap.size <= b -> P b) (hf : v.full) :
  Calls Tryd.prog 59 #[.agg #[.int .i64 v.room, .slice v.AH v.nH v.cH, .bool v.ended, .slice v.AT v.nT v.cT], .agg #[.string d.act, .int .i64 d.a, .int .i64 d.b]] w (DoneSays w P v l d) := by
 have hF : doneF l d = ({ l with held := l.held ++ [d.b] }, tPut) := by
  unfold doneF
  rw [if_neg (by rw [ht]; simp [putA, lookA]), if_neg hd, ht]
  cases hc : l.held <;> (rw [hc] at hr; simp [he, putA, takeA, endA]; simp at hr; omega)
 have HF := Lib.hid hF
 have hn := h.held.length
 have hs1 := hs.held
 rw [hn] at hs1
 have hro := h.room
 have hen := h.ended
 have HO := Lib.hid h
 clear hF h hs
 obtain ⟨s, x, y⟩ := d
 obtain ⟨r, A, n, c, t, A', n', c'⟩ := v
 obtain ⟨lr, lh, le, lt⟩ := l
 subst hro hen
 have hs' : s.toList = putA := ht
 have h1 : (s.toList == [108, 111, 111, 107]) = false := by rw [hs']; rfl
 have h2 : (x == 0) = false := by rw [beq_eq_false_iff_ne]; exact hd
 have h3 : (s.toList == [116, 97, 107, 101]) = false := by rw [hs']; rfl
 have h4 : (s.toList == [101, 110, 100]) = false := by rw [hs']; rfl
 have he' : t = false := he
 subst he'
 have hr' : ¬ r <= n := by have h0 := hr; have h9 := hn; simp only at h0 h9; omega
 obtain ⟨⟨bh, oh, eh⟩, hf2⟩ := hf
 have eh' : A = some ⟨bh, oh, none⟩ := eh
 subst eh'
 have HF2 := Lib.hid hf2
 have hn' : lh.length = n := hn
 have hs1' : n <= 1000 := hs1
 have HN := Lib.hid (And.intro hn' hs1')
 have hcl : n <= c := HO.out.held.le
 have HC := Lib.hid hcl
 clear hd ht he hs' hn hr hs1 eh hf2 hn' hs1' hcl
 obtain ⟨i0, hi, hz0, hz1, hz2⟩ := info_parts info_int
 have HI := Lib.hid (And.intro hi (And.intro hz0 (And.intro hz1 hz2)))
 clear hi hz0 hz1 hz2
 go_enter Tryd.func59, Tryd.ntmps59
 go_upto_region 19 with fail
 obtain ⟨W, hW⟩ : ∃ W, W = ((w.alloc (.cells #[.int .i64 r, .slice (some ⟨bh, oh, none⟩) n c, .bool false, .slice A' n' c'] 102)).alloc (.cells #[.string s, .int .i64 x, .int .i64 y] 34)).alloc (.cells #[.int .i64 0, .slice none 0 0, .bool false, .slice none 0 0] 102) := ⟨_, rfl⟩
 rw [<- hW]
 have kl : W.heap[w.heap.size]? = some (.cells #[.int .i64 r, .slice (some ⟨bh, oh, none⟩) n c, .bool false, .slice A' n' c'] 102) := by rw [hW]; exact blk_alloc (blk_alloc (heap_alloc_new _ _) _) _
 have kd : W.heap[w.heap.size + 1]? = some (.cells #[.string s, .int .i64 x, .int .i64 y] 34) := by rw [hW]; exact blk_alloc (heap_new' _ _ (by simp)) _
 have kr : W.heap[w.heap.size + 1 + 1]? = some (.cells #[.int .i64 0, .slice none 0 0, .bool false, .slice none 0 0] 102) := by rw [hW]; exact heap_new' _ _ (by simp)
 have B : Below w.heap.size w W := by rw [hW]; exact below_al (below_al (below_al (Below.refl _ _) _) _) _
 have zr := blk_lt kr
 have zd := blk_lt kd
 have zl := blk_lt kl
 have HK := Lib.hid (And.intro kl (And.intro kr (And.intro B kd)))
 clear hW
 have el := blk_cell kl
 have ed := blk_cell kd
 have fl := blk_frozen' kl
 clear kl kd kr B
 go_cut [] from 76 to 84 (λ wc => ∃ g2 c2 w2, wc = w2.setCell ⟨w.heap.size, 1, none⟩ (.slice (some ⟨g2, 0, none⟩) (n + 1) c2) /\ w2.ownsRow W.heap.size 3 1 (.slice (some ⟨g2, 0, none⟩) (n + 1) c2) (n + 1) (ints lh ++ [.int .i64 y]) /\ Below W.heap.size W w2)
 case first =>
  obtain ⟨hi, hz0, hz1, hz2⟩ := HI.out
  have HH := Lib.hid hi
  clear hi
  go_region_law (first
    | (refine step_app _ rfl (.tmp 76) (.tmp 78) 23 rfl W.heap.size 3 i0 (.int .i64 0) 1 8 Tryd.underlying23 HH.out hz0 hz1 hz2 rfl (by decide) (.slice (some ⟨_, 0, none⟩) 0 0) 0 [] rfl (row_empty ?c1 ?c2) (by simp) ⟨bh, oh, none⟩ n c (ints lh) rfl (by simp [ints, HN.out.1]) (HO.out.held.news ?c3) (ints_one _) ?c5 ?c6 ?c7 ?_; (case c1 => first | omega | (simp; done) | (simp; omega)); (case c2 => ((try with_reducible apply blk_drew); (first | with_reducible assumption | (with_reducible refine heap_new' _ _ ?_; simp) | (with_reducible refine blk_alloc ?_ _; first | with_reducible assumption | (with_reducible refine heap_new' _ _ ?_; simp)) | (with_reducible refine blk_alloc ?_ _; with_reducible refine blk_alloc ?_ _; first | with_reducible assumption | (with_reducible refine heap_new' _ _ ?_; simp)) | (with_reducible refine blk_alloc ?_ _; with_reducible refine blk_alloc ?_ _; with_reducible refine blk_alloc ?_ _; first | with_reducible assumption | (with_reducible refine heap_new' _ _ ?_; simp))))); (case c3 => (refine HK.out.2.2.1.trans (Below.mono (?_ : Below W.heap.size W _) (by omega)); (repeat' (first | with_reducible assumption | with_reducible exact Below.refl _ _ | with_reducible apply below_al | with_reducible apply below_drew)))); (case c5 => have := HN.out.2; unfold maxLen; omega); (case c6 => have := HN.out.2; omega); (case c7 => first | omega | (simp; done) | (simp; omega)); intro g1 c1 w1 hown1 hgr1 B1; simp only [Nat.zero_add, List.nil_append] at hown1; have HO1 := Lib.hid hown1; have HG1 := Lib.hid hgr1; have BW := (Below.trans (by (repeat' (first | with_reducible assumption | with_reducible exact Below.refl _ _ | with_reducible apply below_al | with_reducible apply below_drew))) B1 : Below W.heap.size W w1); have z1 := BW.size; have el := blk_cell ((BW.block _ zl).trans HK.out.1); have ed := blk_cell ((BW.block _ zd).trans HK.out.2.2.2); have fl := blk_frozen' ((BW.block _ zl).trans HK.out.1); have HB1 := Lib.hid BW; clear hown1 hgr1 B1 BW)
    | (refine step_app _ rfl (.tmp 79) (.tmp 82) 23 rfl W.heap.size 3 i0 (.int .i64 0) 1 8 Tryd.underlying23 HH.out hz0 hz1 hz2 rfl (by decide) (.slice (some ⟨g1, 0, none⟩) n c1) n (ints lh) rfl ?c1 (by simp) ⟨_, 0, none⟩ 1 1 [.int .i64 y] rfl rfl ?c2 (by simp [Value.oneCell']) ?c5 ?c6 ?c7 ?_; (case c1 => first | exact HO1.out | exact row_keep HO1.out (λ b hb => Below.heap_alloc _ _ b hb)); (case c2 => first | exact cell_one_new _ _ _ | exact World.news_of_block ((HG1.out.block _ (by first | (simp; done) | (simp; omega)) (by first | (simp [Value.ownBlock]; done) | (simp [Value.ownBlock]; omega))).trans (by ((try with_reducible apply blk_drew); (first | with_reducible assumption | (with_reducible refine heap_new' _ _ ?_; simp) | (with_reducible refine blk_alloc ?_ _; first | with_reducible assumption | (with_reducible refine heap_new' _ _ ?_; simp)) | (with_reducible refine blk_alloc ?_ _; with_reducible refine blk_alloc ?_ _; first | with_reducible assumption | (with_reducible refine heap_new' _ _ ?_; simp)) | (with_reducible refine blk_alloc ?_ _; with_reducible refine blk_alloc ?_ _; with_reducible refine blk_alloc ?_ _; first | with_reducible assumption | (with_reducible refine heap_new' _ _ ?_; simp))))))); (case c5 => have := HN.out.2; unfold maxLen; omega); (case c6 => have := HN.out.2; omega); (case c7 => first | omega | (simp; done) | (simp; omega)); intro g2 c2 w2 hown2 hgr2 B2; have HO2 := Lib.hid hown2; have BW := (Below.trans (by have := HB1.out; (repeat' (first | with_reducible assumption | with_reducible exact Below.refl _ _ | with_reducible apply below_al | with_reducible apply below_drew))) B2 : Below W.heap.size W w2); have z2 := BW.size; have kl := (BW.block _ zl).trans HK.out.1; have kr := (BW.block _ zr).trans HK.out.2.1; have el := blk_cell kl; have er := blk_cell kr; have fl := blk_frozen' kl; have fr := blk_frozen' kr; have HB2 := Lib.hid BW; have HKL := Lib.hid kl; clear hown2 hgr2 B2 BW kl kr))
  all_goals
   go_wp2_with fail
   go_meet
   exact ⟨g2, c2, w2, rfl, HO2.out, HB2.out⟩
 case rest =>
  obtain ⟨g2, c2, w2, rfl, ho2, hb2⟩ := hcut
  have hO2 := row_slc ho2 (by decide)
  have HO2 := Lib.hid hO2
  have z2 := hb2.size
  have HB2 := Lib.hid hb2
  have kl := (hb2.block _ zl).trans HK.out.1
  have kr := (hb2.block _ zr).trans HK.out.2.1
  have el := blk_cell kl
  have er := blk_cell kr
  have fl := blk_frozen' kl
  have fr := blk_frozen' kr
  have zl2 := blk_lt kl
  have zr2 := blk_lt kr
  clear kl kr ho2 hO2 hb2 ed
  go_wp2
  have hF := HF.out
  have hO2 := HO2.out
  have hC := HK.out.2.2.1.trans (HB2.out.mono (by omega))
  refine bodyPost_ret (v := .tuple #[.agg #[.int .i64 r, .slice (some ⟨g2, 0, none⟩) (n + 1) c2, .bool false, .slice A' n' c'], .string ⟨tPut.toArray⟩]) ?_ rfl ⟨⟨r, some ⟨g2, 0, none⟩, n + 1, c2, false, A', n', c'⟩, ?_, ?_, ?_, λ hf => ⟨⟨_, _, rfl⟩, hf.2⟩⟩
  ·simp [results, Tryd.results59, go_sem, er, tPut]
  ·rw [hF]; rfl
  ·rw [hF]
   refine ln_two rfl rfl ?_ (HO.out.taken.below hC) HO.out.takenP (λ b hb => hP b (by omega)) hC.size (H := W.heap.size) (by (repeat' (first | with_reducible assumption | with_reducible exact Chg.refl _ _ _ | (with_reducible refine Chg.setCell ?_ (by first | omega | (simp; done) | (simp; omega)) (by first | omega | (simp; done) | (simp; omega)) _) | with_reducible apply Chg.alloc)))
   rw [<- ints_snoc]; exact hO2
  ·exact Below.chg hC (hi := W.heap.size) (by (repeat' (first | with_reducible assumption | with_reducible exact Chg.refl _ _ _ | (with_reducible refine Chg.setCell ?_ (by first | omega | (simp; done) | (simp; omega)) (by first | omega | (simp; done) | (simp; omega)) _) | with_reducible apply Chg.alloc))) (Nat.le_refl _)
end Go.Proofs.YtkfafknliihabaaDoor
namespace Go.Proofs.YtkfafknliihabaaDoor
open Go.RowKit
theorem Slc.belowHi {w w' : World} {lo hi s n c : Nat} {A : Option Addr} {xs : List Value} (h : Slc w lo hi s A n c xs) (hb : Below hi w w') : Slc w' lo hi s A n c xs :=
 h.keep hb.size λ b _ h2 _ => hb.block b h2
theorem ln_both {w2 w' : World} {P : Nat -> Prop} {a H : Nat} {v : LnV} {l : Ln} (hr : v.room = l.room) (he : v.ended = l.ended) (hh : Slc w2 H w2.heap.size 1 v.AH v.nH v.cH (ints l.held)) (ht : Slc w2 H w2.heap.size 1 v.AT v.nT v.cT (ints l.taken))
  (hP : ∀ b, H <= b -> P b) (hk : Chg a H w2 w') : LnOk w' P v l :=
 ⟨hr, he, (hh.chg hk (.inr (Nat.le_refl _))).wide (Nat.zero_le _) hk.size, (ht.chg hk (.inr (Nat.le_refl _))).wide (Nat.zero_le _) hk.size, hh.inP hP, ht.inP hP⟩
theorem Slc.tail {w : World} {lo c b off : Nat} {x : Int} {xs : List Int} (h : Slc w lo w.heap.size 1 (some ⟨b, off, none⟩) (xs.length + 1) c (ints (x :: xs))) :
  ∃ AD : Addr, (if c = 1 then some (⟨b, off, none⟩ : Addr) else some ⟨b, off + 1, none⟩) = some AD /\ ∀ w', Below w.heap.size w w' -> ∀ j u, (ints xs)[j]? = some u -> w'.cell? (AD.add j) = some u := by
 by_cases hc : c = 1
 ·have h1 := h.le
  have : xs = [] := List.eq_nil_of_length_eq_zero (by omega)
  subst this
  exact ⟨_, if_pos hc, λ _ _ j u hu => by simp [ints] at hu⟩
 ·refine ⟨_, if_neg hc, λ w' hb j u hu => ?_⟩
  obtain ⟨b', off', e, _, _, h3, h4⟩ := h.at_ (by omega)
  injection e with e; injection e with e1 e2; subst e1 e2
  rw [Addr.add_lit]
  refine (World.cell?_of_block (hb.block b h3)).trans ?_
  have := h4 (j + 1) u (by simpa [ints] using hu)
  rw [show off + 1 + j = off + (j + 1) by omega]
  exact this
set_option maxRecDepth 20000 in
set_option maxHeartbeats 4000000 in
theorem done_take (v : LnV) (l : Ln) (d : DeedD) (w : World) (P : Nat -> Prop) (h : LnOk w P v l) (hs : LnSmall l) (hd : ¬ d.a = 0) (ht : d.act.toList = takeA) (hne : ¬ l.held = []) (hP : ∀ b, w.heap.size <= b -> P b) (hf : v.full) :
  Calls Tryd.prog 59 #[.agg #[.int .i64 v.room, .slice v.AH v.nH v.cH, .bool v.ended, .slice v.AT v.nT v.cT], .agg #[.string d.act, .int .i64 d.a, .int .i64 d.b]] w (DoneSays w P v l d) := by
 obtain ⟨lr, lh, le, lt⟩ := l
 obtain ⟨x0, xs, ehl⟩ : ∃ x0 xs, lh = x0 :: xs := by cases lh with
  | nil => exact absurd rfl hne
  | cons a b => exact ⟨a, b, rfl⟩
 subst ehl
 have hF : doneF ⟨lr, x0 :: xs, le, lt⟩ d = (⟨lr, xs, le, lt ++ [x0]⟩, tTook x0) := by
  unfold doneF
  rw [if_neg (by rw [ht]; simp [takeA, lookA]), if_neg hd, ht]
  simp
 have HF := Lib.hid hF
 have hn := h.held.length
 have hnT := h.taken.length
 have hs1 := hs.held
 have hsT := hs.taken
 obtain ⟨w0, w1⟩ := hs.words x0 (by simp)
 have hro := h.room
 have hen := h.ended
 have HO := Lib.hid h
 clear hF h hs
 obtain ⟨s, x, y⟩ := d
 obtain ⟨r, A, n, c, t, A', n', c'⟩ := v
 subst hro hen
 have hs' : s.toList = takeA := ht
 have h1 : (s.toList == [108, 111, 111, 107]) = false := by rw [hs']; rfl
 have h2 : (x == 0) = false := by rw [beq_eq_false_iff_ne]; exact hd
 have h3 : (s.toList == [116, 97, 107, 101]) = true := by rw [hs']; rfl
 obtain ⟨⟨bh, oh, eh⟩, ⟨bt, ot, et⟩⟩ := hf
 have eh' : A = some ⟨bh, oh, none⟩ := eh
 have et' : A' = some ⟨bt, ot, none⟩ := et
 subst eh' et'
 have hn' : n = xs.length + 1 := by simpa using hn.symm
 subst hn'
 have hnT' : lt.length = n' := hnT
 have hs1' : xs.length + 1 <= 1000 := by simpa using hs1
 have hsT' : n' <= 1000 := by rw [<- hnT']; exact hsT
 have HN := Lib.hid (And.intro hnT' (And.intro hs1' hsT'))
 have hcl : xs.length + 1 <= c := HO.out.held.le
 have HC := Lib.hid hcl
 obtain ⟨b, off, v0, e1, _, _, hbz, hv0, hcell⟩ := HO.out.held.cellAt (k := 0) (by simp)
 injection e1 with e1; injection e1 with e1 e2; subst e1 e2
 have hv0' : x0 = v0 := by simpa using hv0
 subst hv0'
 simp only [Nat.add_zero] at hcell
 obtain ⟨X, rfl⟩ := Int.eq_ofNat_of_zero_le w0
 obtain ⟨AD, hAD, hnews⟩ := HO.out.held.tail
 have HNW := Lib.hid hnews
 clear hnews
 clear hd ht hs' hn hnT hs1 hsT eh et hs1' hsT' hne hv0
 obtain ⟨i0, hi, hz0, hz1, hz2⟩ := info_parts info_int
 have HI := Lib.hid (And.intro hi (And.intro hz0 (And.intro hz1 hz2)))
 clear hi hz0 hz1 hz2
 have hgt : (0 : Int) < (xs.length : Int) + 1 := by omega
 go_enter Tryd.func59, Tryd.ntmps59
 go_upto_region 6 with fail
 obtain ⟨W, hW⟩ : ∃ W, W = ((w.alloc (.cells #[.int .i64 r, .slice (some ⟨bh, oh, none⟩) (xs.length + 1) c, .bool t, .slice (some ⟨bt, ot, none⟩) n' c'] 102)).alloc (.cells #[.string s, .int .i64 x, .int .i64 y] 34)).alloc (.cells #[.int .i64 0, .slice none 0 0, .bool false, .slice none 0 0] 102) := ⟨_, rfl⟩
 rw [<- hW]
 have kl : W.heap[w.heap.size]? = some (.cells #[.int .i64 r, .slice (some ⟨bh, oh, none⟩) (xs.length + 1) c, .bool t, .slice (some ⟨bt, ot, none⟩) n' c'] 102) := by rw [hW]; exact blk_alloc (blk_alloc (heap_alloc_new _ _) _) _
 have kr : W.heap[w.heap.size + 1 + 1]? = some (.cells #[.int .i64 0, .slice none 0 0, .bool false, .slice none 0 0] 102) := by rw [hW]; exact heap_new' _ _ (by simp)
 have B : Below w.heap.size w W := by rw [hW]; exact below_al (below_al (below_al (Below.refl _ _) _) _) _
 have zr := blk_lt kr
 have zl := blk_lt kl
 have HK := Lib.hid (And.intro kl (And.intro kr B))
 clear hW
 have el := blk_cell kl
 have fl := blk_frozen' kl
 have hcl2 := (B.cell (p := ⟨bh, oh, none⟩) hbz).trans hcell
 clear kl kr B hcell
 obtain ⟨hi, hz0, hz1, hz2⟩ := HI.out
 have HH := Lib.hid hi
 clear hi
 go_upto_region 8 with (at_builtin; refine wpList_app _ rfl (.tmp 35) (.tmp 38) 23 rfl W.heap.size 3 i0 (.int .i64 0) 1 8 Tryd.underlying23 HH.out hz0 hz1 hz2 rfl (by decide) (.slice (some ⟨W.heap.size, 0, none⟩) 0 0) 0 [] rfl (row_empty (Nat.le_refl _) ?c2) (by simp) AD xs.length _ (ints xs) rfl (by simp [ints]) (HNW.out _ ?c3) (ints_one _) ?c5 ?c6 ?c7 ?_; (case c2 => ((try with_reducible apply blk_drew); (first | with_reducible assumption | (with_reducible refine heap_new' _ _ ?_; simp) | (with_reducible refine blk_alloc ?_ _; first | with_reducible assumption | (with_reducible refine heap_new' _ _ ?_; simp)) | (with_reducible refine blk_alloc ?_ _; with_reducible refine blk_alloc ?_ _; first | with_reducible assumption | (with_reducible refine heap_new' _ _ ?_; simp)) | (with_reducible refine blk_alloc ?_ _; with_reducible refine blk_alloc ?_ _; with_reducible refine blk_alloc ?_ _; first | with_reducible assumption | (with_reducible refine heap_new' _ _ ?_; simp))))); (case c3 => (refine HK.out.2.2.trans (Below.mono (?_ : Below W.heap.size W _) (by omega)); (repeat' (first | with_reducible assumption | with_reducible exact Below.refl _ _ | with_reducible apply below_al | with_reducible apply below_drew)))); (case c5 => have := HN.out.2; unfold maxLen; omega); (case c6 => have := HN.out.2; omega); (case c7 => first | omega | (simp; done) | (simp; omega)); intro g1 c1 w1 hown1 hgr1 B1; simp only [Nat.zero_add, List.nil_append] at hown1; have BW := (Below.trans (by (repeat' (first | with_reducible assumption | with_reducible exact Below.refl _ _ | with_reducible apply below_al | with_reducible apply below_drew))) B1 : Below W.heap.size W w1); have z1 := BW.size; have kl := (BW.block _ zl).trans HK.out.1; have kr := (BW.block _ zr).trans HK.out.2.1; have zl1 := blk_lt kl; have zr1 := blk_lt kr; have el := blk_cell kl; have fl := blk_frozen' kl; have HB1 := Lib.hid BW; have S1 := row_slc hown1 (by decide); have HS1 := Lib.hid S1; have HKL := Lib.hid kl; have HKR := Lib.hid kr; clear hown1 hgr1 B1 BW S1 kl kr)
 have kl0 := blk_setCell (i := 1) HKL.out (.slice (some ⟨g1, 0, none⟩) xs.length c1)
 have kr0 := (Chg.setCell (Chg.refl w.heap.size (w.heap.size + 1) w1) (p := ⟨w.heap.size, 1, none⟩) (Nat.le_refl _) (Nat.lt_succ_self _) (.slice (some ⟨g1, 0, none⟩) xs.length c1)).block (w.heap.size + 1 + 1) (by omega) (by omega)
 have kr0 := kr0.trans HKR.out
 have B0 : Below w.heap.size w (w1.setCell ⟨w.heap.size, 1, none⟩ (.slice (some ⟨g1, 0, none⟩) xs.length c1)) := Below.chg (HK.out.2.2.trans (HB1.out.mono (by omega))) (hi := W.heap.size) (by (repeat' (first | with_reducible assumption | with_reducible exact Chg.refl _ _ _ | (with_reducible refine Chg.setCell ?_ (by first | omega | (simp; done) | (simp; omega)) (by first | omega | (simp; done) | (simp; omega)) _) | with_reducible apply Chg.alloc))) (Nat.le_refl _)
 have S10 : Slc (w1.setCell ⟨w.heap.size, 1, none⟩ (.slice (some ⟨g1, 0, none⟩) xs.length c1)) W.heap.size w1.heap.size 1 (some ⟨g1, 0, none⟩) xs.length c1 (ints xs) := HS1.out.chg (l' := w.heap.size) (h' := W.heap.size) (by (repeat' (first | with_reducible assumption | with_reducible exact Chg.refl _ _ _ | (with_reducible refine Chg.setCell ?_ (by first | omega | (simp; done) | (simp; omega)) (by first | omega | (simp; done) | (simp; omega)) _) | with_reducible apply Chg.alloc))) (.inr (Nat.le_refl _))
 have sz : (w1.setCell ⟨w.heap.size, 1, none⟩ (.slice (some ⟨g1, 0, none⟩) xs.length c1)).heap.size = w1.heap.size := by simp
 rw [<- sz] at S10
 generalize w1.setCell ⟨w.heap.size, 1, none⟩ (.slice (some ⟨g1, 0, none⟩) xs.length c1) = V at kl0 kr0 B0 S10 sz ⊢
 have zW : W.heap.size <= V.heap.size := by omega
 simp only [List.setIfInBounds_toArray, List.set_cons_succ, List.set_cons_zero] at kl0
 have HKL := Lib.hid kl0
 have HKR := Lib.hid kr0
 have HBV := Lib.hid B0
 have HSV := Lib.hid S10
 have el := blk_cell kl0
 have fl := blk_frozen' kl0
 have zl := blk_lt kl0
 have zr := blk_lt kr0
 clear kl0 kr0 B0 S10 sz
 go_wp2_with (first
  | (at_builtin; refine wpList_app _ rfl (.tmp 41) (.tmp 43) 23 rfl V.heap.size 3 i0 (.int .i64 0) 1 8 Tryd.underlying23 HH.out hz0 hz1 hz2 rfl (by decide) (.slice (some ⟨V.heap.size, 0, none⟩) 0 0) 0 [] rfl (row_empty (Nat.le_refl _) ?c2) (by simp) ⟨bt, ot, none⟩ n' c' (ints lt) rfl (by have := HN.out.1; simp [ints]; exact this) (HO.out.taken.news ?c3) (ints_one _) ?c5 ?c6 ?c7 ?_; (case c2 => ((try with_reducible apply blk_drew); (first | with_reducible assumption | (with_reducible refine heap_new' _ _ ?_; simp) | (with_reducible refine blk_alloc ?_ _; first | with_reducible assumption | (with_reducible refine heap_new' _ _ ?_; simp)) | (with_reducible refine blk_alloc ?_ _; with_reducible refine blk_alloc ?_ _; first | with_reducible assumption | (with_reducible refine heap_new' _ _ ?_; simp)) | (with_reducible refine blk_alloc ?_ _; with_reducible refine blk_alloc ?_ _; with_reducible refine blk_alloc ?_ _; first | with_reducible assumption | (with_reducible refine heap_new' _ _ ?_; simp))))); (case c3 => (refine HBV.out.trans (Below.mono (?_ : Below V.heap.size V _) (by omega)); (repeat' (first | with_reducible assumption | with_reducible exact Below.refl _ _ | with_reducible apply below_al | with_reducible apply below_drew)))); (case c5 => have := HN.out.2; unfold maxLen; omega); (case c6 => have := HN.out.2; omega); (case c7 => first | omega | (simp; done) | (simp; omega)); intro g2 c2 w2 hown2 hgr2 B2; simp only [Nat.zero_add, List.nil_append] at hown2; have BW := (Below.trans (by (repeat' (first | with_reducible assumption | with_reducible exact Below.refl _ _ | with_reducible apply below_al | with_reducible apply below_drew))) B2 : Below V.heap.size V w2); have z2 := BW.size; have kl := (BW.block _ zl).trans HKL.out; have kr := (BW.block _ zr).trans HKR.out; have zl2 := blk_lt kl; have zr2 := blk_lt kr; have el := blk_cell kl; have fl := blk_frozen' kl; have HB2 := Lib.hid BW; have HO2 := Lib.hid hown2; clear hown2 hgr2 B2 BW kl kr)
  | (at_builtin; refine wpList_app _ rfl (.tmp 44) (.tmp 46) 23 rfl V.heap.size 3 i0 (.int .i64 0) 1 8 Tryd.underlying23 HH.out hz0 hz1 hz2 rfl (by decide) (.slice (some ⟨g2, 0, none⟩) n' c2) n' (ints lt) rfl (row_keep HO2.out (λ b hb => Below.heap_alloc _ _ b hb)) (by simp) ⟨_, 0, none⟩ 1 1 [.int .i64 X] rfl rfl (cell_one_new _ _ _) (by simp [Value.oneCell']) ?c5 ?c6 ?c7 ?_; (case c5 => have := HN.out.2; unfold maxLen; omega); (case c6 => have := HN.out.2; omega); (case c7 => first | omega | (simp; done) | (simp; omega)); intro g3 c3 w3 hown3 hgr3 B3; have BW := (Below.trans (by have := HB2.out; (repeat' (first | with_reducible assumption | with_reducible exact Below.refl _ _ | with_reducible apply below_al | with_reducible apply below_drew))) B3 : Below V.heap.size V w3); have z3 := BW.size; have kl := (BW.block _ zl).trans HKL.out; have kr := (BW.block _ zr).trans HKR.out; have zl3 := blk_lt kl; have zr3 := blk_lt kr; have el := blk_cell kl; have fl := blk_frozen' kl; have HB3 := Lib.hid BW; have HO3 := Lib.hid hown3; have HKL3 := Lib.hid kl; have HKR3 := Lib.hid kr; clear hown3 hgr3 B3 BW kl kr))
 have kl0 := blk_setCell (i := 3) HKL3.out (.slice (some ⟨g3, 0, none⟩) (n' + 1) c3)
 have kr0 := (Chg.setCell (Chg.refl w.heap.size (w.heap.size + 1) w3) (p := ⟨w.heap.size, 3, none⟩) (Nat.le_refl _) (Nat.lt_succ_self _) (.slice (some ⟨g3, 0, none⟩) (n' + 1) c3)).block (w.heap.size + 1 + 1) (by omega) (by omega)
 have kr0 := kr0.trans HKR3.out
 have B0 : Below w.heap.size w (w3.setCell ⟨w.heap.size, 3, none⟩ (.slice (some ⟨g3, 0, none⟩) (n' + 1) c3)) := Below.chg (HBV.out.trans (HB3.out.mono (by omega))) (hi := W.heap.size) (by (repeat' (first | with_reducible assumption | with_reducible exact Chg.refl _ _ _ | (with_reducible refine Chg.setCell ?_ (by first | omega | (simp; done) | (simp; omega)) (by first | omega | (simp; done) | (simp; omega)) _) | with_reducible apply Chg.alloc))) (Nat.le_refl _)
 have S10 : Slc (w3.setCell ⟨w.heap.size, 3, none⟩ (.slice (some ⟨g3, 0, none⟩) (n' + 1) c3)) W.heap.size V.heap.size 1 (some ⟨g1, 0, none⟩) xs.length c1 (ints xs) := (HSV.out.belowHi HB3.out).chg (l' := w.heap.size) (h' := W.heap.size) (by (repeat' (first | with_reducible assumption | with_reducible exact Chg.refl _ _ _ | (with_reducible refine Chg.setCell ?_ (by first | omega | (simp; done) | (simp; omega)) (by first | omega | (simp; done) | (simp; omega)) _) | with_reducible apply Chg.alloc))) (.inr (Nat.le_refl _))
 have S30 : Slc (w3.setCell ⟨w.heap.size, 3, none⟩ (.slice (some ⟨g3, 0, none⟩) (n' + 1) c3)) V.heap.size w3.heap.size 1 (some ⟨g3, 0, none⟩) (n' + 1) c3 (ints lt ++ [.int .i64 X]) := (row_slc HO3.out (by decide)).chg (l' := w.heap.size) (h' := W.heap.size) (by (repeat' (first | with_reducible assumption | with_reducible exact Chg.refl _ _ _ | (with_reducible refine Chg.setCell ?_ (by first | omega | (simp; done) | (simp; omega)) (by first | omega | (simp; done) | (simp; omega)) _) | with_reducible apply Chg.alloc))) (.inr zW)
 have sz : (w3.setCell ⟨w.heap.size, 3, none⟩ (.slice (some ⟨g3, 0, none⟩) (n' + 1) c3)).heap.size = w3.heap.size := by simp
 rw [<- sz] at S30
 generalize w3.setCell ⟨w.heap.size, 3, none⟩ (.slice (some ⟨g3, 0, none⟩) (n' + 1) c3) = U at kl0 kr0 B0 S10 S30 sz ⊢
 have zV : V.heap.size <= U.heap.size := by omega
 simp only [List.setIfInBounds_toArray, List.set_cons_succ, List.set_cons_zero] at kl0
 have HBU := Lib.hid B0
 have HS1U := Lib.hid (S10.wide (lo' := W.heap.size) (Nat.le_refl _) zV)
 have HS3U := Lib.hid (S30.wide zW (Nat.le_refl _))
 have kl := kl0
 have kr := kr0
 have B : Below U.heap.size U U := Below.refl _ _
 have zl := blk_lt kl0
 have zr := blk_lt kr0
 clear B0 S10 S30 sz kl0 kr0
 clear el fl
 have el := blk_cell kl
 have er := blk_cell kr
 have fr := blk_frozen' kr
 have hX : X <= 100000000 := by omega
 have hll : (Lib.itoa (X : Int)).length <= 20 := by rw [Lib.itoa_nonneg]; exact dec_len hX
 go_region_with (first
  | (go_at_call 92; refine (l11Dec_any X hX _).mono ?_; rintro e W2 ⟨rfl, b2⟩; obtain ⟨kl, zl⟩ := blk_below b2 (by first | exact kl | (apply blk_drew; exact kl)); obtain ⟨kr, zr⟩ := blk_below b2 (by first | exact kr | (apply blk_drew; exact kr)); have el := blk_cell kl; have er := blk_cell kr; have fr := blk_frozen' kr; have B := below_step (by first | exact B | (apply below_drew; exact B)) b2))
 all_goals
  go_wp2
  have hF := HF.out
  refine bodyPost_ret (v := .tuple #[.agg #[.int .i64 r, .slice (some ⟨g1, 0, none⟩) xs.length c1, .bool t, .slice (some ⟨g3, 0, none⟩) (n' + 1) c3], .string ⟨(tTook X).toArray⟩]) ?_ rfl ⟨⟨r, some ⟨g1, 0, none⟩, xs.length, c1, t, some ⟨g3, 0, none⟩, n' + 1, c3⟩, ?_, ?_, ?_, λ _ => ⟨⟨_, _, rfl⟩, ⟨_, _, rfl⟩⟩⟩
  ·simp [results, Tryd.results59, go_sem, er, tTook, bytes_app]
  ·rw [hF]; rfl
  ·rw [hF]
   have e3 := ints_snoc lt (X : Int)
   exact ln_both (H := W.heap.size) (a := w.heap.size) rfl rfl ((HS1U.out.below B).wide (Nat.le_refl _) B.size) (((e3 ▸ HS3U.out : Slc U W.heap.size U.heap.size 1 (some ⟨g3, 0, none⟩) (n' + 1) c3 (ints (lt ++ [(X : Int)]))).below B).wide (Nat.le_refl _) B.size) (λ b hb => hP b (by omega)) (by (repeat' (first | with_reducible assumption | with_reducible exact Chg.refl _ _ _ | (with_reducible refine Chg.setCell ?_ (by first | omega | (simp; done) | (simp; omega)) (by first | omega | (simp; done) | (simp; omega)) _) | with_reducible apply Chg.alloc)))
  ·exact Below.chg (HBU.out.trans (B.mono (by omega))) (hi := W.heap.size) (by (repeat' (first | with_reducible assumption | with_reducible exact Chg.refl _ _ _ | (with_reducible refine Chg.setCell ?_ (by first | omega | (simp; done) | (simp; omega)) (by first | omega | (simp; done) | (simp; omega)) _) | with_reducible apply Chg.alloc))) (Nat.le_refl _)
theorem l1Done_any {lines : Int} (v : LnV) (l : Ln) (d : DeedD) (w : World) (P : Nat -> Prop) (h : LnOk w P v l) (hs : LnSmall l) (hd : deedP lines d) (hP : ∀ b, w.heap.size <= b -> P b) (hf : d.a ≠ 0 -> v.full) :
  Calls Tryd.prog 59 #[.agg #[.int .i64 v.room, .slice v.AH v.nH v.cH, .bool v.ended, .slice v.AT v.nT v.cT], .agg #[.string d.act, .int .i64 d.a, .int .i64 d.b]] w (DoneSays w P v l d) := by
 obtain ⟨ha, -⟩ := hd
 by_cases h0 : d.act.toList = lookA
 ·exact done_look v l d w P h hs h0
 by_cases h1 : d.a = 0
 ·exact done_never v l d w P h hs h0 h1
 by_cases h2 : d.act.toList = takeA /\ ¬ l.held = []
 ·exact done_take v l d w P h hs h1 h2.1 h2.2 hP (hf h1)
 have h2' : d.act.toList = takeA -> l.held = [] := λ h => Classical.byContradiction λ hn => h2 ⟨h, hn⟩
 cases he : l.ended with
 | true => exact done_ended v l d w P h hs h0 h1 h2' he
 | false =>
  by_cases h3 : d.act.toList = takeA
  ·exact done_empty v l d w P h hs h1 h3 (h2' h3) he
  by_cases h4 : d.act.toList = endA
  ·exact done_end v l d w P h hs h1 h4 he
  have h5 : d.act.toList = putA := by
   rcases ha with h | h | h | h
   ·exact h
   ·exact absurd h h3
   ·exact absurd h h4
   ·exact absurd h h0
  by_cases h6 : l.room <= l.held.length
  ·exact done_full v l d w P h hs h1 h5 he h6
  ·exact done_put v l d w P h hs h1 h5 he h6 hP (hf h1)
end Go.Proofs.YtkfafknliihabaaDoor
namespace Go.Proofs.YtkfafknliihabaaDoor
open Go.RowKit
def lnCells (vs : List LnV) : List Value := vs.flatMap LnV.cells
theorem lnCells_len (vs : List LnV) : (lnCells vs).length = vs.length * 4 := flat_len LnV.cells (s := 4) (λ _ => rfl) vs
theorem lnCells_get {vs : List LnV} {k : Nat} {v : LnV} (h : vs[k]? = some v) : (lnCells vs)[k * 4 + 0]? = some (.int .i64 v.room) /\ (lnCells vs)[k * 4 + 1]? = some (.slice v.AH v.nH v.cH) /\ (lnCells vs)[k * 4 + 2]? = some (.bool v.ended) /\ (lnCells vs)[k * 4 + 3]? = some (.slice v.AT v.nT v.cT) := by
 have g : ∀ i, i < 4 -> (lnCells vs)[k * 4 + i]? = (v.cells)[i]? := λ i hi => by
  have := flat_get LnV.cells (s := 4) (λ _ => rfl) vs k i hi
  rw [h] at this; exact this
 exact ⟨g 0 (by decide), g 1 (by decide), g 2 (by decide), g 3 (by decide)⟩
theorem info_line : (Tryd.prog.info? 102).map (λ i => (i.zero, i.size, i.bytes)) = some (some (.agg #[.int .i64 0, .slice none 0 0, .bool false, .slice none 0 0]), 4, 64) := by kernel_rfl
def v00 : LnV := ⟨0, none, 0, 0, false, none, 0, 0⟩
structure FreshV (v : LnV) (r : Int) : Prop where
 room : v.room = r
 nH : v.nH = 0
 cH : v.cH = 0
 ended : v.ended = false
 nT : v.nT = 0
 cT : v.cT = 0
theorem FreshV.ok {v : LnV} {r : Int} (h : FreshV v r) (w : World) (P : Nat -> Prop) : LnOk w P v ⟨r, [], false, []⟩ := by
 obtain ⟨a, b, c, d, e, f, g, i⟩ := v
 obtain ⟨rfl, rfl, rfl, rfl, rfl, rfl⟩ := h
 exact ⟨rfl, rfl, ⟨rfl, Nat.le_refl _, Nat.zero_le _, λ h => absurd h (by simp)⟩, ⟨rfl, Nat.le_refl _, Nat.zero_le _, λ h => absurd h (by simp)⟩, λ _ _ h => absurd h (by simp), λ _ _ h => absurd h (by simp)⟩
structure OpenVs (vs : List LnV) (rs : List Int) : Prop where
 len : vs.length = rs.length + 1
 head : vs[0]? = some v00
 rest : ∀ j r, rs[j]? = some r -> ∃ v, vs[j + 1]? = some v /\ FreshV v r /\ v.full
theorem OpenVs.snoc {vs : List LnV} {rs : List Int} (h : OpenVs vs rs) {v : LnV} {r : Int} (hv : FreshV v r) (hf : v.full) : OpenVs (vs ++ [v]) (rs ++ [r]) := by
 refine ⟨by simp [h.len], ?_, λ j q hq => ?_⟩
 ·rw [List.getElem?_append_left (by rw [h.len]; omega)]; exact h.head
 ·rcases Nat.lt_or_ge j rs.length with hj | hj
  ·rw [List.getElem?_append_left hj] at hq
   obtain ⟨u, hu, hu2⟩ := h.rest j q hq
   exact ⟨u, by rw [List.getElem?_append_left (by rw [h.len]; omega)]; exact hu, hu2⟩
  ·have hj' : j = rs.length := by have := (List.getElem?_eq_some_iff.1 hq).1; simp at this; omega
   subst hj'
   have hq' : r = q := by simpa using hq
   subst hq'
   exact ⟨v, by rw [<- h.len]; simp, hv, hf⟩
theorem OpenVs.lns {vs : List LnV} {rs : List Int} (h : OpenVs vs rs) (w : World) (P : Nat -> Prop) : ∀ i v l, vs[i]? = some v -> (openF rs)[i]? = some l -> LnOk w P v l /\ (0 < i -> v.full) := by
 intro i v l hv hl
 cases i with
 | zero =>
  rw [h.head] at hv
  have e1 : v00 = v := by simpa using hv
  have e2 : (⟨0, [], false, []⟩ : Ln) = l := by simpa [openF] using hl
  subst e1 e2
  exact ⟨FreshV.ok ⟨rfl, rfl, rfl, rfl, rfl, rfl⟩ w P, λ h => absurd h (by omega)⟩
 | succ j =>
  have : ∃ r, rs[j]? = some r /\ l = ⟨r, [], false, []⟩ := by
   unfold openF at hl
   rw [List.getElem?_cons_succ, List.getElem?_map] at hl
   cases hr : rs[j]? with
   | none => rw [hr] at hl; cases hl
   | some r => rw [hr] at hl; exact ⟨r, rfl, by simpa using hl.symm⟩
  obtain ⟨r, hr, rfl⟩ := this
  obtain ⟨u, hu, hu1, hu2⟩ := h.rest j r hr
  rw [hu] at hv
  have e : u = v := by simpa using hv
  subst e
  exact ⟨hu1.ok w P, λ _ => hu2⟩
theorem lnCells_snoc (vs : List LnV) (v : LnV) : lnCells (vs ++ [v]) = lnCells vs ++ v.cells := by simp [lnCells]
theorem take_snoc' {α : Type} {l : List α} {k : Nat} {a : α} (h : l[k]? = some a) : l.take (k + 1) = l.take k ++ [a] := by
 obtain ⟨hk, e⟩ := List.getElem?_eq_some_iff.1 h
 rw [List.take_succ_eq_append_getElem hk, e]
set_option maxRecDepth 20000 in
set_option maxHeartbeats 2000000 in
theorem l1Open_any (lo hi n c : Nat) (A : Option Addr) (rs : List Int) (w : World) (h : Slc w lo hi 1 A n c (ints rs)) (hn : n <= 6) :
  Calls Tryd.prog 58 #[.slice A n c] w λ e w' => ∃ g cl vs, e = .returned (.slice (some ⟨g, 0, none⟩) (rs.length + 1) cl) /\ w'.ownsRow w.heap.size 102 4 (.slice (some ⟨g, 0, none⟩) (rs.length + 1) cl) (rs.length + 1) (lnCells vs) /\ OpenVs vs rs /\ Below w.heap.size w w' := by
 have hl := Lib.hid h.length
 obtain ⟨i0, hi0, hz0, hz1, hz2⟩ := info_parts info_line
 have HI := Lib.hid (And.intro hi0 (And.intro hz0 (And.intro hz1 hz2)))
 clear hi0 hz0 hz1 hz2
 go_enter Tryd.func58, Tryd.ntmps58
 go_wp2
 go_loopw [3, 4] (λ v i wr => ∃ (k g cl : Nat) (vs : List LnV), k <= n /\ i = .int .i64 k /\ v = .slice (some ⟨g, 0, none⟩) (k + 1) cl /\ Below w.heap.size w wr /\ wr.ownsRow w.heap.size 102 4 (.slice (some ⟨g, 0, none⟩) (k + 1) cl) (k + 1) (lnCells vs) /\ OpenVs vs (rs.take k)) (λ _ i _ => n - (intOf i).toNat)
 case atStart =>
  refine ⟨0, w.heap.size, 1, [v00], Nat.zero_le _, rfl, rfl, below_al (Below.refl _ _) _, ⟨rfl, .inr ⟨_, _, _, rfl, Nat.le_refl _, heap_alloc_new _ _, Nat.le_refl _, by unfold maxLen; omega, rfl, rfl⟩⟩, ⟨by simp, rfl, λ j r hj => by simp at hj⟩⟩
 case round =>
  obtain ⟨k, g, cl, vs, hk, rfl, rfl, B, hown, hv⟩ := hrel
  have HOW := Lib.hid hown
  have HV := Lib.hid hv
  have HB := Lib.hid B
  clear hown hv
  by_cases hlt : k < n
  ·obtain ⟨b, off, x, rfl, _, _, h3, hxk, hv0⟩ := h.cellAt hlt
   have hv := (B.cell (p := ⟨b, off + k, none⟩) h3).trans hv0
   have HX := Lib.hid hxk
   have s0 := B.size
   clear hxk h hv0 B
   obtain ⟨hi0, hz0, hz1, hz2⟩ := HI.out
   have HH := Lib.hid hi0
   clear hi0
   go_wp2_with (at_builtin; refine wpList_app _ rfl (.tmp 13) (.tmp 21) 64 rfl w.heap.size 102 i0 (.agg #[.int .i64 0, .slice none 0 0, .bool false, .slice none 0 0]) 4 64 Tryd.underlying64 HH.out hz0 hz1 hz2 rfl (by decide) (.slice (some ⟨g, 0, none⟩) (k + 1) cl) (k + 1) (lnCells vs) rfl (row_keep HOW.out ?c1) (by simp) ⟨_, 0, none⟩ 1 1 (LnV.cells ⟨x, some ⟨wr.heap.size, 0, none⟩, 0, 0, false, some ⟨wr.heap.size + 1, 0, none⟩, 0, 0⟩) rfl rfl ?c2 (by intro u hu; simp [LnV.cells] at hu; rcases hu with rfl | rfl | rfl | rfl <;> rfl) ?c5 ?c6 ?c7 ?_; (case c1 => (intro b hb; have := ((below_al (below_al (below_al (Below.refl wr.heap.size wr) (.cells #[] 3)) (.cells #[] 3)) (.cells (LnV.cells ⟨x, some ⟨wr.heap.size, 0, none⟩, 0, 0, false, some ⟨wr.heap.size + 1, 0, none⟩, 0, 0⟩).toArray 102)).block b hb); exact this)); (case c2 => exact World.news_of_block (cs := (LnV.cells ⟨x, some ⟨wr.heap.size, 0, none⟩, 0, 0, false, some ⟨wr.heap.size + 1, 0, none⟩, 0, 0⟩).toArray) (heap_new' _ _ (by simp))); (case c5 => unfold maxLen; omega); (case c6 => omega); (case c7 => (simp; omega)); intro g1 c1 w1 hown1 hgr1 B1; have HO1 := Lib.hid hown1; have HB1 := Lib.hid B1; clear hown1 hgr1 B1)
   go_roundw
   case rel =>
    refine ⟨k + 1, g1, c1, vs ++ [⟨x, some ⟨wr.heap.size, 0, none⟩, 0, 0, false, some ⟨wr.heap.size + 1, 0, none⟩, 0, 0⟩], by omega, by go_num, rfl, Below.trans (below_al (below_al (below_al HB.out _) _) _) HB1.out, by rw [lnCells_snoc]; exact HO1.out, ?_⟩
    rw [take_snoc' HX.out]
    exact HV.out.snoc ⟨rfl, rfl, rfl, rfl, rfl, rfl⟩ ⟨⟨_, _, rfl⟩, ⟨_, _, rfl⟩⟩
   case measure => simp [intOf]; omega
  ·have e : k = n := by omega
   subst e
   clear h
   go_wp2
   go_ret
   have hv := HV.out
   rw [List.take_of_length_le (by rw [hl.out]; omega)] at hv
   exact ⟨g, cl, vs, by rw [hl.out]; simp, by rw [hl.out]; exact HOW.out, hv, B⟩
end Go.Proofs.YtkfafknliihabaaDoor
