/-
  Part 1 of what stands behind the last text.
-/
import Derived.Test.YtjcpjijihajopaaRows
import Derived.ProofKit
import Derived.OpenShut
import Derived.ShutString
import Derived.ChangeOld
import Derived.Below
import Derived.Lib.SmallJoins
import Derived.Deep.Fields
import Derived.WalkKit
import Derived.WalkSpells
import Derived.WalkLawsBesides
import Derived.Lib.Hide
import Derived.Deep.Draws
import Derived.Deep.QuietTactic
import Derived.BigQuiet
import Derived.Laws.MakeOwn
import Derived.Deep.OwnRows
import Derived.Laws.OwnMore
import Derived.Deep.AppendLies
import Derived.Deep.AppendSrc
import Derived.Deep.RegionLaw
import Derived.OwnWalk
import Derived.Lib.ItoaNum
import Derived.Lib.ItoaLen
import Derived.Deep.RegionHeld3
import Derived.Laws.StructEq
import Derived.Deep.Matrix
import Derived.Laws.BitsAllLaws
import Derived.Laws.BitsLemmas
import Derived.Laws.AppendOwn
import Derived.Deep.RegionWith
set_option linter.unusedSectionVars false
set_option linter.unusedSimpArgs false
set_option linter.unusedVariables false
namespace Go.Proofs.Ytjcpjijihajopaa
open Go.Joins Go.ChangeShapes Go.WideShapes Go.RowKit Go.Deep
theorem own : ownKnob Try.prog.godebug = none := by kernel_rfl
theorem laidOut : laidOutB Try.prog = true := by kernel_rfl
end Go.Proofs.Ytjcpjijihajopaa
namespace Go.Proofs.Ytjcpjijihajopaa
open Go.RowKit
def inB (n lo hi : Int) : Bool := decide (lo ≤ n ∧ n ≤ hi)
theorem ret_bool {a b : Bool} (h : a = b) : Ending.returned (.bool a) = .returned (.bool b) := by rw [h]
theorem ret_int {k : IntKind} {a b : Int} (h : a = b) : Ending.returned (.int k a) = .returned (.int k b) := by rw [h]
theorem blk_lt {W : World} {N : Nat} {o : Obj} (hN : W.heap[N]? = some o) : N < W.heap.size := by
  rcases Nat.lt_or_ge N W.heap.size with h | h
  · exact h
  · rw [Array.getElem?_eq_none h] at hN; cases hN
theorem blk_below {W w1 : World} {N : Nat} {o : Obj} (hb : Below W.heap.size W w1) (hN : W.heap[N]? = some o) : w1.heap[N]? = some o ∧ N < w1.heap.size :=
  ⟨(hb.block N (blk_lt hN)).trans hN, Nat.lt_of_lt_of_le (blk_lt hN) hb.size⟩
theorem blk_alloc {W : World} {N : Nat} {o : Obj} (hN : W.heap[N]? = some o) (o' : Obj) : (W.alloc o').heap[N]? = some o := (Below.heap_alloc W o' N (blk_lt hN)).trans hN
theorem below_step {w W w1 : World} (h : Below w.heap.size w W) (hb : Below W.heap.size W w1) : Below w.heap.size w w1 := h.trans (hb.mono h.size)
theorem below_al {w W : World} (h : Below w.heap.size w W) (o : Obj) : Below w.heap.size w (W.alloc o) := h.alloc h.size o
theorem blk_cell {w : World} {N : Nat} {cs : Array Value} {T : TypeId} {fz : Nat × Nat} (h : w.heap[N]? = some (.cells cs T fz)) (o : Nat) : w.cell? ⟨N, o, none⟩ = cs[o]? := cell_of_row w N o cs T fz h
set_option maxHeartbeats 400000 in
theorem l1In_any (n lo hi : Int) (w : World) :
    Calls Try.prog 31 #[.int .i64 n, .int .i64 lo, .int .i64 hi] w fun e w' => e = .returned (.bool (inB n lo hi)) ∧ w' = w := by
  go_enter Try.func31, Try.ntmps31
  go_wp2
  all_goals go_ret
  all_goals exact ⟨ret_bool (by simp [inB]; omega), rfl⟩
end Go.Proofs.Ytjcpjijihajopaa
namespace Go.Proofs.Ytjcpjijihajopaa
open Go.RowKit
set_option linter.unusedVariables false
structure Slc (w : World) (lo hi s : Nat) (A : Option Addr) (n c : Nat) (xs : List Value) : Prop where
  len : xs.length = n * s
  le : n ≤ c
  cap : c ≤ maxLen
  at_ : 0 < n → ∃ b off, A = some ⟨b, off, none⟩ ∧ lo ≤ b ∧ b < hi ∧ b < w.heap.size ∧ ∀ j v, xs[j]? = some v → w.cell? ⟨b, off + j, none⟩ = some v
theorem Slc.keep {w w' : World} {lo hi s n c : Nat} {A : Option Addr} {xs : List Value} (h : Slc w lo hi s A n c xs) (hs : w.heap.size ≤ w'.heap.size) (k : ∀ b, lo ≤ b → b < hi → b < w.heap.size → w'.heap[b]? = w.heap[b]?) : Slc w' lo hi s A n c xs :=
  ⟨h.len, h.le, h.cap, fun hn => by
    obtain ⟨b, off, e, h1, h2, h3, h4⟩ := h.at_ hn
    exact ⟨b, off, e, h1, h2, Nat.lt_of_lt_of_le h3 hs, fun j v hv => (World.cell?_of_block (k b h1 h2 h3)).trans (h4 j v hv)⟩⟩
theorem Slc.below {w w' : World} {lo hi s n c : Nat} {A : Option Addr} {xs : List Value} (h : Slc w lo hi s A n c xs) (hb : Below w.heap.size w w') : Slc w' lo hi s A n c xs :=
  h.keep hb.size fun b _ _ h3 => hb.block b h3
theorem Slc.wide {w : World} {lo hi lo' hi' s n c : Nat} {A : Option Addr} {xs : List Value} (h : Slc w lo hi s A n c xs) (h1 : lo' ≤ lo) (h2 : hi ≤ hi') : Slc w lo' hi' s A n c xs :=
  ⟨h.len, h.le, h.cap, fun hn => by obtain ⟨b, off, e, k1, k2, k3, k4⟩ := h.at_ hn; exact ⟨b, off, e, by omega, by omega, k3, k4⟩⟩
def ints (xs : List Int) : List Value := xs.map (Value.int .i64)
theorem ints_get {xs : List Int} {k : Nat} (h : k < xs.length) : (ints xs)[k]? = some (.int .i64 xs[k]) := by simp [ints, h]
theorem Slc.cellAt {w : World} {lo hi n c : Nat} {A : Option Addr} {xs : List Int} (h : Slc w lo hi 1 A n c (ints xs)) {k : Nat} (hk : k < n) : ∃ b off v, A = some ⟨b, off, none⟩ ∧ lo ≤ b ∧ b < hi ∧ b < w.heap.size ∧ xs[k]? = some v ∧ w.cell? ⟨b, off + k, none⟩ = some (.int .i64 v) := by
  obtain ⟨b, off, e, h1, h2, h3, h4⟩ := h.at_ (by omega)
  have hl : k < xs.length := by have := h.len; simp [ints] at this; omega
  exact ⟨b, off, xs[k], e, h1, h2, h3, List.getElem?_eq_getElem hl, h4 k _ (ints_get hl)⟩
theorem blk_frozen' {w : World} {N : Nat} {cs : Array Value} {T : TypeId} (h : w.heap[N]? = some (.cells cs T)) (o : Nat) : w.frozen? ⟨N, o, none⟩ = false := by simp [World.frozen?, h]
theorem blk_setCell {w : World} {g i : Nat} {cs : Array Value} {T : TypeId} {fz : Nat × Nat} (h : w.heap[g]? = some (.cells cs T fz)) (v : Value) : (w.setCell ⟨g, i, none⟩ v).heap[g]? = some (.cells (cs.setIfInBounds i v) T fz) := by
  simp [World.setCell, Array.getElem?_modify, h]
structure Chg (lo hi : Nat) (w w' : World) : Prop where
  os : w'.os = w.os
  tape : w'.tape = w.tape
  output : w'.output = w.output
  size : w.heap.size ≤ w'.heap.size
  block : ∀ i, i < w.heap.size → ¬ (lo ≤ i ∧ i < hi) → w'.heap[i]? = w.heap[i]?
theorem Chg.refl (lo hi : Nat) (w : World) : Chg lo hi w w := ⟨rfl, rfl, rfl, Nat.le_refl _, fun _ _ _ => rfl⟩
theorem Chg.setCell {lo hi : Nat} {a b : World} (h : Chg lo hi a b) {p : Addr} (h1 : lo ≤ p.block) (h2 : p.block < hi) (v : Value) : Chg lo hi a (b.setCell p v) :=
  ⟨h.os, h.tape, h.output, by simpa [World.setCell] using h.size, fun i hi hne => (Below.heap_setCell b p v i (by omega)).trans (h.block i hi hne)⟩
structure Own (w : World) (lo hi : Nat) (A : Option Addr) (n c : Nat) (xs : List Int) : Prop where
  slc : Slc w lo hi 1 A n c (ints xs)
  blk : 0 < n → ∃ b cs, A = some ⟨b, 0, none⟩ ∧ w.heap[b]? = some (.cells cs 3) ∧ n ≤ cs.size
end Go.Proofs.Ytjcpjijihajopaa
namespace Go.Proofs.Ytjcpjijihajopaa
open Go.RowKit
set_option linter.unusedVariables false
structure OwnV (E s : Nat) (w : World) (lo hi : Nat) (A : Option Addr) (n c : Nat) (xs : List Value) : Prop where
  slc : Slc w lo hi s A n c xs
  blk : 0 < n → ∃ b cs, A = some ⟨b, 0, none⟩ ∧ w.heap[b]? = some (.cells cs E) ∧ n * s ≤ cs.size
section
variable {E s : Nat} {w w' : World} {lo hi n c : Nat} {A : Option Addr} {xs : List Value}
theorem OwnV.keep (h : OwnV E s w lo hi A n c xs) (hs : w.heap.size ≤ w'.heap.size) (k : ∀ b, lo ≤ b → b < hi → b < w.heap.size → w'.heap[b]? = w.heap[b]?) : OwnV E s w' lo hi A n c xs :=
  ⟨h.slc.keep hs k, fun hn => by
    obtain ⟨b, cs, e, hb, hc⟩ := h.blk hn
    obtain ⟨b', off, e', h1, h2, h3, _⟩ := h.slc.at_ hn
    rw [e] at e'; injection e' with e'; injection e' with e1 e2 e3; subst e1
    exact ⟨b, cs, e, (k b h1 h2 h3).trans hb, hc⟩⟩
theorem OwnV.wide {lo' hi' : Nat} (h : OwnV E s w lo hi A n c xs) (h1 : lo' ≤ lo) (h2 : hi ≤ hi') : OwnV E s w lo' hi' A n c xs := ⟨h.slc.wide h1 h2, h.blk⟩
theorem ownV_of_row {base : Nat} {v : Value} (h : w.ownsRow base E s v n xs) (hs : 0 < s) : ∃ A c, v = .slice A n c ∧ OwnV E s w base w.heap.size A n c xs := by
  obtain ⟨hl, h | ⟨g, cap, cur, rfl, hb, hg, hn, hc, hsz, ht⟩⟩ := h
  · obtain ⟨rfl, rfl⟩ := h
    exact ⟨none, 0, rfl, ⟨⟨hl, Nat.le_refl _, Nat.zero_le _, fun h => absurd h (by omega)⟩, fun h => absurd h (by omega)⟩⟩
  · refine ⟨_, cap, rfl, ⟨⟨hl, hn, hc, fun h0 => ⟨g, 0, rfl, hb, blk_lt hg, blk_lt hg, fun j v hv => ?_⟩⟩, fun h0 => ⟨g, cur, rfl, hg, by rw [hsz]; exact Nat.mul_le_mul_right _ hn⟩⟩⟩
    rw [Nat.zero_add, blk_cell hg]
    rw [← ht] at hv
    have hj : j < n * s := by
      rcases Nat.lt_or_ge j (n * s) with h | h
      · exact h
      · rw [List.getElem?_eq_none (by rw [List.length_take]; omega)] at hv; cases hv
    rw [List.getElem?_take_of_lt hj] at hv
    simpa using hv
theorem Slc.cells (h : Slc w lo hi s A n c xs) {k : Nat} (hk : k < n) : ∃ b off, A = some ⟨b, off, none⟩ ∧ lo ≤ b ∧ b < hi ∧ b < w.heap.size ∧ ∀ f v, xs[k * s + f]? = some v → w.cell? ⟨b, off + (k * s + f), none⟩ = some v := by
  obtain ⟨b, off, e, h1, h2, h3, h4⟩ := h.at_ (by omega)
  exact ⟨b, off, e, h1, h2, h3, fun f v hv => h4 _ v hv⟩
end
theorem flat_get {α : Type} (f : α → List Value) {s : Nat} (hf : ∀ a, (f a).length = s) : ∀ (l : List α) (k i : Nat), i < s → (l.flatMap f)[k * s + i]? = (l[k]?).bind fun a => (f a)[i]?
  | [], k, i, _ => by simp
  | a :: l, 0, i, hi => by
    rw [List.flatMap_cons, Nat.zero_mul, Nat.zero_add, List.getElem?_append_left (by rw [hf]; exact hi)]; rfl
  | a :: l, k + 1, i, hi => by
    rw [List.flatMap_cons, List.getElem?_append_right (by rw [hf, Nat.succ_mul]; omega), hf, show (k + 1) * s + i - s = k * s + i by rw [Nat.succ_mul]; omega, flat_get f hf l k i hi]; rfl
theorem flat_len {α : Type} (f : α → List Value) {s : Nat} (hf : ∀ a, (f a).length = s) (l : List α) : (l.flatMap f).length = l.length * s := by
  induction l with
  | nil => simp
  | cons a l ih => rw [List.flatMap_cons, List.length_append, ih, hf, List.length_cons, Nat.succ_mul]; omega
end Go.Proofs.Ytjcpjijihajopaa
namespace Go.Proofs.Ytjcpjijihajopaa
open Go.RowKit
set_option linter.unusedVariables false
theorem row_below {E s : Nat} {W W' : World} {base n : Nat} {v : Value} {xs : List Value} {w0 : World} (h : w0.ownsRow base E s v n xs) (g : W.grownBy W' v.ownBlock) (hb : base ≤ W.heap.size) : Below base W W' :=
  ⟨g.os, g.tape, g.output, g.size, fun i hi => g.block i (by omega) (by
    obtain ⟨_, h | ⟨b, cap, cur, rfl, h1, _⟩⟩ := h
    · rw [h.1]; simp [Value.ownBlock]
    · simp [Value.ownBlock]; omega)⟩
theorem row_some {E s : Nat} {w : World} {base n : Nat} {v : Value} {xs : List Value} (h : w.ownsRow base E s v n xs) (hv : ¬ v = .slice none 0 0) : ∃ g c, v = .slice (some ⟨g, 0, none⟩) n c := by
  obtain ⟨_, h | ⟨b, cap, cur, rfl, h1, _⟩⟩ := h
  · exact absurd h.1 hv
  · exact ⟨b, cap, rfl⟩
theorem row_empty {E s : Nat} {w : World} {base g : Nat} (hb : base ≤ g) (hg : w.heap[g]? = some (.cells #[] E)) : w.ownsRow base E s (.slice (some ⟨g, 0, none⟩) 0 0) 0 [] :=
  ⟨by simp, .inr ⟨g, 0, #[], rfl, hb, hg, Nat.le_refl _, Nat.zero_le _, by simp, by simp⟩⟩
theorem row_keep {E s : Nat} {w w' : World} {base n : Nat} {v : Value} {xs : List Value} (h : w.ownsRow base E s v n xs) (hb : ∀ b, b < w.heap.size → w'.heap[b]? = w.heap[b]?) : w'.ownsRow base E s v n xs := by
  obtain ⟨hl, h | ⟨g, cap, cur, rfl, h1, hg, h2⟩⟩ := h
  · exact ⟨hl, .inl h⟩
  · exact ⟨hl, .inr ⟨g, cap, cur, rfl, h1, (hb g (blk_lt hg)).trans hg, h2⟩⟩
theorem row_below' {E s : Nat} {w w' : World} {base n : Nat} {v : Value} {xs : List Value} (h : w.ownsRow base E s v n xs) (hb : Below w.heap.size w w') : w'.ownsRow base E s v n xs := row_keep h fun b h => hb.block b h
theorem blk_drew {w : World} {N : Nat} {o : Obj} (h : w.heap[N]? = some o) : w.drew.heap[N]? = some o := h
theorem below_drew {a w : World} {B : Nat} (h : Below B a w) : Below B a w.drew := ⟨h.os, h.tape, h.output, h.size, h.block⟩
theorem heap_new' (w : World) (o : Obj) {b : Nat} (hb : b = w.heap.size) : (w.alloc o).heap[b]? = some o := by subst hb; exact heap_alloc_new w o
section
variable {P : Program} (w : World)
theorem run_app (t ty : TypeId) (base : Nat) (e : TypeId) (i : TypeInfo) (z : Value) (size bytes : Nat) (ht : P.underlying t = some (.slice e)) (hi : P.info? e = some i) (hz : i.zero = some z)
    (hsize : i.size = size) (hby : i.bytes = bytes) (hzs : z.cells.size = size) (hsz : 0 < size)
    (v : Value) (n : Nat) (xs : List Value) (hown : w.ownsRow base e size v n xs) (hv : ¬ v = .slice none 0 0)
    (ad : Addr) (m c : Nat) (news : List Value) (hl : news.length = m * size) (hnews : ∀ j u, news[j]? = some u → w.cell? (ad.add j) = some u) (h1 : ∀ u ∈ news, u.oneCell' = true)
    (h63 : n + m ≤ maxLen) (hbytes : (n + m) * bytes ≤ 140737488355328) (hbase : base ≤ w.heap.size) :
    ∃ g cap w', (Builtin.append_ #[t, t] ty #[v, .slice (some ad) m c]).run P w = .ok (.slice (some ⟨g, 0, none⟩) (n + m) cap) w' ∧
      w'.ownsRow base e size (.slice (some ⟨g, 0, none⟩) (n + m) cap) (n + m) (xs ++ news) ∧ w.grownBy w' v.ownBlock ∧ Below base w w' := by
  obtain ⟨v', w', hr, h2, h3, h4, h5⟩ := run_append_own_at (P := P) w base t ty e i z size bytes ht hi hz hsize hby hzs hsz v n xs hown ad m c news hl hnews h1 h63 hbytes hbase
  obtain ⟨g, cap, rfl⟩ := row_some h2 (fun h => hv (h4.1 h).1)
  exact ⟨g, cap, w', hr, h2, h3, row_below hown h3 hbase⟩
theorem wp_app {o : Oper} {a : Act} {K : Act → World → Prop} {Q : Exit → Act → World → Prop} (s x : Operand) (t : TypeId)
    (ho : o.op = .call { callee := .builtin .append, args := #[s, x], argTypes := #[t, t] })
    (base : Nat) (e : TypeId) (i : TypeInfo) (z : Value) (size bytes : Nat) (ht : P.underlying t = some (.slice e)) (hi : P.info? e = some i) (hz : i.zero = some z)
    (hsize : i.size = size) (hby : i.bytes = bytes) (hzs : z.cells.size = size) (hsz : 0 < size)
    (v : Value) (n : Nat) (xs : List Value) (hs : a.eval s = v) (hown : w.ownsRow base e size v n xs) (hv : ¬ v = .slice none 0 0)
    (ad : Addr) (m c : Nat) (news : List Value) (hx : a.eval x = .slice (some ad) m c) (hl : news.length = m * size) (hnews : ∀ j u, news[j]? = some u → w.cell? (ad.add j) = some u) (h1 : ∀ u ∈ news, u.oneCell' = true)
    (h63 : n + m ≤ maxLen) (hbytes : (n + m) * bytes ≤ 140737488355328) (hbase : base ≤ w.heap.size)
    (h : ∀ g cap w', w'.ownsRow base e size (.slice (some ⟨g, 0, none⟩) (n + m) cap) (n + m) (xs ++ news) → w.grownBy w' v.ownBlock → Below base w w' → K (a.put o.dst (.slice (some ⟨g, 0, none⟩) (n + m) cap)) w') : o.wp P a w K Q := by
  obtain ⟨g, cap, w', hr, h2, h3, h4⟩ := run_app (P := P) w t o.type base e i z size bytes ht hi hz hsize hby hzs hsz v n xs hown hv ad m c news hl hnews h1 h63 hbytes hbase
  unfold Oper.wp execOp
  simp only [ho, resolve, invoke, builtin, Sem.run_bind, Sem.run_pure, Result.andThen_ok, List.map_toArray, List.map_cons, List.map_nil, hs, hx, hr]
  exact h g cap w' h2 h3 h4
theorem wpList_app {ops : Array Oper} {rest : List Oper} {o : Oper} {a : Act} {Q : Exit → Act → World → Prop} (hgd : o.guard = none) (s x : Operand) (t : TypeId)
    (ho : o.op = .call { callee := .builtin .append, args := #[s, x], argTypes := #[t, t] })
    (base : Nat) (e : TypeId) (i : TypeInfo) (z : Value) (size bytes : Nat) (ht : P.underlying t = some (.slice e)) (hi : P.info? e = some i) (hz : i.zero = some z)
    (hsize : i.size = size) (hby : i.bytes = bytes) (hzs : z.cells.size = size) (hsz : 0 < size)
    (v : Value) (n : Nat) (xs : List Value) (hs : a.eval s = v) (hown : w.ownsRow base e size v n xs) (hv : ¬ v = .slice none 0 0)
    (ad : Addr) (m c : Nat) (news : List Value) (hx : a.eval x = .slice (some ad) m c) (hl : news.length = m * size) (hnews : ∀ j u, news[j]? = some u → w.cell? (ad.add j) = some u) (h1 : ∀ u ∈ news, u.oneCell' = true)
    (h63 : n + m ≤ maxLen) (hbytes : (n + m) * bytes ≤ 140737488355328) (hbase : base ≤ w.heap.size)
    (h : ∀ g cap w', w'.ownsRow base e size (.slice (some ⟨g, 0, none⟩) (n + m) cap) (n + m) (xs ++ news) → w.grownBy w' v.ownBlock → Below base w w' → wpList P ops Q rest (a.put o.dst (.slice (some ⟨g, 0, none⟩) (n + m) cap)) w') : wpList P ops Q (o :: rest) a w :=
  wpList_plain hgd fun _ hK => wp_app w s x t ho base e i z size bytes ht hi hz hsize hby hzs hsz v n xs hs hown hv ad m c news hx hl hnews h1 h63 hbytes hbase fun g cap w' h2 h3 h4 => hK _ _ (h g cap w' h2 h3 h4)
theorem step_app {ops : Array Oper} {o : Oper} {a : Act} {K : Act → World → Prop} {Q : Exit → Act → World → Prop} {EE : Prop} (hgd : o.guard = none) (s x : Operand) (t : TypeId)
    (ho : o.op = .call { callee := .builtin .append, args := #[s, x], argTypes := #[t, t] })
    (base : Nat) (e : TypeId) (i : TypeInfo) (z : Value) (size bytes : Nat) (ht : P.underlying t = some (.slice e)) (hi : P.info? e = some i) (hz : i.zero = some z)
    (hsize : i.size = size) (hby : i.bytes = bytes) (hzs : z.cells.size = size) (hsz : 0 < size)
    (v : Value) (n : Nat) (xs : List Value) (hs : a.eval s = v) (hown : w.ownsRow base e size v n xs) (hv : ¬ v = .slice none 0 0)
    (ad : Addr) (m c : Nat) (news : List Value) (hx : a.eval x = .slice (some ad) m c) (hl : news.length = m * size) (hnews : ∀ j u, news[j]? = some u → w.cell? (ad.add j) = some u) (h1 : ∀ u ∈ news, u.oneCell' = true)
    (h63 : n + m ≤ maxLen) (hbytes : (n + m) * bytes ≤ 140737488355328) (hbase : base ≤ w.heap.size)
    (h : ∀ g cap w', w'.ownsRow base e size (.slice (some ⟨g, 0, none⟩) (n + m) cap) (n + m) (xs ++ news) → w.grownBy w' v.ownBlock → Below base w w' → K (a.put o.dst (.slice (some ⟨g, 0, none⟩) (n + m) cap)) w') :
    if Region.wanted o (yielded ops a.tmps) = true then Oper.wp P o a w K Q else EE := by
  have hw : Region.wanted o (yielded ops a.tmps) = true := by simp [Region.wanted, hgd]
  rw [if_pos hw]
  exact wp_app w s x t ho base e i z size bytes ht hi hz hsize hby hzs hsz v n xs hs hown hv ad m c news hx hl hnews h1 h63 hbytes hbase h
end
theorem row_slc {E s : Nat} {w : World} {base n c : Nat} {A : Option Addr} {xs : List Value} (h : w.ownsRow base E s (.slice A n c) n xs) (hs : 0 < s) : Slc w base w.heap.size s A n c xs := by
  obtain ⟨A', c', e, o⟩ := ownV_of_row h hs
  injection e with e1 e2 e3; subst e1 e3; exact o.slc
end Go.Proofs.Ytjcpjijihajopaa
namespace Go.Proofs.Ytjcpjijihajopaa
open Go.RowKit
end Go.Proofs.Ytjcpjijihajopaa
namespace Go.Proofs.Ytjcpjijihajopaa
open Go.RowKit
set_option linter.unusedVariables false
theorem bytes_app (a b : Array UInt8) : (⟨a⟩ : ByteArray) ++ ⟨b⟩ = ⟨a ++ b⟩ := by
  apply ByteArray.ext; simp [ByteArray.data_append]
theorem dec_len {k : Nat} (hk : k ≤ 100000000) : (Lib.decDigits k).length ≤ 20 := by
  rw [Lib.decDigits_length]; exact Lib.nDigits_le20 k (by omega)
theorem cv1 (w : World) (x : Nat) (hx : x ≤ 255) : (convert 41 9 (.slice (some ⟨w.heap.size, 0, none⟩) 1 1)).run Try.prog (w.alloc (.cells #[.int .u8 (x : Int)] 5)) = .ok (.string ⟨[UInt8.ofNat x].toArray⟩) (w.alloc (.cells #[.int .u8 (x : Int)] 5)) :=
  run_convert_bytes_back (P := Try.prog) _ 41 9 5 ⟨w.heap.size, 0, none⟩ 1 [UInt8.ofNat x] Try.underlying41 Try.underlying5 Try.underlying9 (fun j hj => by
    obtain rfl : j = 0 := by simp at hj; omega
    simp [Addr.add]
    omega)
end Go.Proofs.Ytjcpjijihajopaa
namespace Go.Proofs.Ytjcpjijihajopaa
open Go.RowKit
set_option linter.unusedVariables false
structure RecD where
  c : Int
  l : Int
  o : Int
  f : Int
  h : Int
  t : Int
  e : ByteArray
  deriving DecidableEq
def RecD.cells (d : RecD) : List Value := [.int .i64 d.c, .int .i64 d.l, .int .i64 d.o, .int .i64 d.f, .int .i64 d.h, .int .i64 d.t, .string d.e]
def RecD.val (d : RecD) : Value := .agg #[.int .i64 d.c, .int .i64 d.l, .int .i64 d.o, .int .i64 d.f, .int .i64 d.h, .int .i64 d.t, .string d.e]
def recs (ds : List RecD) : List Value := ds.flatMap RecD.cells
theorem recs_len (ds : List RecD) : (recs ds).length = ds.length * 7 := flat_len RecD.cells (s := 7) (fun _ => rfl) ds
theorem recs_get {ds : List RecD} {k : Nat} {d : RecD} (h : ds[k]? = some d) : (recs ds)[k * 7 + 0]? = some (.int .i64 d.c) ∧ (recs ds)[k * 7 + 1]? = some (.int .i64 d.l) ∧ (recs ds)[k * 7 + 2]? = some (.int .i64 d.o) ∧ (recs ds)[k * 7 + 3]? = some (.int .i64 d.f) ∧ (recs ds)[k * 7 + 4]? = some (.int .i64 d.h) ∧ (recs ds)[k * 7 + 5]? = some (.int .i64 d.t) ∧ (recs ds)[k * 7 + 6]? = some (.string d.e) := by
  have e := fun i hi => flat_get RecD.cells (s := 7) (fun _ => rfl) ds k i hi
  unfold recs
  rw [e 0 (by omega), e 1 (by omega), e 2 (by omega), e 3 (by omega), e 4 (by omega), e 5 (by omega), e 6 (by omega), h]
  exact ⟨rfl, rfl, rfl, rfl, rfl, rfl, rfl⟩
theorem Slc.recLen {w : World} {lo hi n c : Nat} {A : Option Addr} {ds : List RecD} (h : Slc w lo hi 7 A n c (recs ds)) : ds.length = n := by
  have := h.len; rw [recs_len] at this; omega
structure RecAt (w : World) (b off : Nat) (d : RecD) : Prop where
  c0 : w.cell? ⟨b, off, none⟩ = some (.int .i64 d.c)
  c1 : w.cell? ⟨b, off + 1, none⟩ = some (.int .i64 d.l)
  c2 : w.cell? ⟨b, off + 2, none⟩ = some (.int .i64 d.o)
  c3 : w.cell? ⟨b, off + 3, none⟩ = some (.int .i64 d.f)
  c4 : w.cell? ⟨b, off + 4, none⟩ = some (.int .i64 d.h)
  c5 : w.cell? ⟨b, off + 5, none⟩ = some (.int .i64 d.t)
  c6 : w.cell? ⟨b, off + 6, none⟩ = some (.string d.e)
theorem Slc.recAt {w : World} {lo hi n c : Nat} {A : Option Addr} {ds : List RecD} (h : Slc w lo hi 7 A n c (recs ds)) {k : Nat} (hk : k < n) :
    ∃ b off d, A = some ⟨b, off, none⟩ ∧ lo ≤ b ∧ b < hi ∧ b < w.heap.size ∧ ds[k]? = some d ∧ RecAt w b (off + k * 7) d := by
  obtain ⟨b, off, e, h1, h2, h3, h4⟩ := h.cells hk
  have hl : k < ds.length := by rw [h.recLen]; exact hk
  obtain ⟨g0, g1, g2, g3, g4, g5, g6⟩ := recs_get (List.getElem?_eq_getElem hl)
  exact ⟨b, off, ds[k], e, h1, h2, h3, List.getElem?_eq_getElem hl, ⟨h4 0 _ g0, h4 1 _ g1, h4 2 _ g2, h4 3 _ g3, h4 4 _ g4, h4 5 _ g5, h4 6 _ g6⟩⟩
end Go.Proofs.Ytjcpjijihajopaa
namespace Go.Proofs.Ytjcpjijihajopaa
open Go.RowKit
end Go.Proofs.Ytjcpjijihajopaa
namespace Go.Proofs.Ytjcpjijihajopaa
open Go.RowKit
def recP (c l o f h t : Int) (e : List UInt8) : Prop :=
  1 ≤ c ∧ c ≤ 99 ∧ 1 ≤ l ∧ l ≤ 6 ∧ 0 ≤ o ∧ o ≤ 4 ∧ 0 ≤ f ∧ f ≤ 3600 ∧
    ((e = [111, 112, 101, 110] ∧ t = -1 ∧ ((o = 0 ∧ h = -1) ∨ (o ≠ 0 ∧ f ≤ h ∧ h ≤ 3600))) ∨
     (e = [100, 111, 110, 101] ∧ o ≠ 0 ∧ f ≤ h ∧ h ≤ t ∧ t ≤ 3600) ∨
     ((e = [108, 101, 102, 116] ∨ e = [116, 105, 114, 101, 100]) ∧ o = 0 ∧ h = -1 ∧ f ≤ t ∧ t ≤ 3600))
instance (c l o f h t : Int) (e : List UInt8) : Decidable (recP c l o f h t e) := by unfold recP; infer_instance
def recB (c l o f h t : Int) (e : List UInt8) : Bool := decide (recP c l o f h t e)
set_option maxHeartbeats 2000000 in
theorem impl_RecordValid (c l o f h t : Int) (e : ByteArray) (w : World) :
    Calls Try.prog 53 #[.agg #[.int .i64 c, .int .i64 l, .int .i64 o, .int .i64 f, .int .i64 h, .int .i64 t, .string e]] w fun x w' => x = .returned (.bool (recB c l o f h t e.toList)) ∧ Below w.heap.size w w' := by
  go_enter Try.func53, Try.ntmps53
  go_wp2
  all_goals go_ret
  all_goals refine ⟨ret_bool ?_, ((Below.refl _ _).alloc (Nat.le_refl _) _)⟩
  all_goals rw [Bool.eq_iff_iff]
  all_goals simp [recB, recP]
  all_goals grind
def overP (o f h t : Int) (e : List UInt8) : Prop :=
  (e = [100, 111, 110, 101] ∧ 0 < o ∧ f ≤ h ∧ h ≤ t ∧ t ≤ 3600 ∧ f ≤ t) ∨
     ((e = [108, 101, 102, 116] ∨ e = [116, 105, 114, 101, 100]) ∧ o = 0 ∧ h = -1 ∧ f ≤ t ∧ t ≤ 3600)
instance (o f h t : Int) (e : List UInt8) : Decidable (overP o f h t e) := by unfold overP; infer_instance
def overB (o f h t : Int) (e : List UInt8) : Bool := decide (overP o f h t e)
set_option maxHeartbeats 2000000 in
theorem spec_l8Over (c l o f h t : Int) (e : ByteArray) (w : World) :
    Calls Try.prog 81 #[.agg #[.int .i64 c, .int .i64 l, .int .i64 o, .int .i64 f, .int .i64 h, .int .i64 t, .string e]] w fun x w' => x = .returned (.bool (overB o f h t e.toList)) ∧ Below w.heap.size w w' := by
  go_enter Try.func81, Try.ntmps81
  go_wp2_with ((go_at_call 31; refine (l1In_any _ _ _ _).mono ?_; rintro e w' ⟨rfl, rfl⟩))
  all_goals go_ret
  all_goals refine ⟨ret_bool ?_, ((Below.refl _ _).alloc (Nat.le_refl _) _)⟩
  all_goals rw [Bool.eq_iff_iff]
  all_goals simp [overB, overP, inB] at *
  all_goals grind
set_option maxHeartbeats 2000000 in
theorem spec_RecordValid (c l o f h t : Int) (e : ByteArray) (w : World) :
    Calls Try.prog 58 #[.agg #[.int .i64 c, .int .i64 l, .int .i64 o, .int .i64 f, .int .i64 h, .int .i64 t, .string e]] w fun x w' => x = .returned (.bool (recB c l o f h t e.toList)) ∧ Below w.heap.size w w' := by
  go_enter Try.func58, Try.ntmps58
  go_wp2_with (first | (go_at_call 31; refine (l1In_any _ _ _ _).mono ?_; rintro e w' ⟨rfl, rfl⟩) | (go_at_call 81; refine (spec_l8Over _ _ _ _ _ _ _ _).mono ?_; rintro e w1 ⟨rfl, hb1⟩))
  all_goals go_ret
  all_goals refine ⟨ret_bool ?_, by first | exact ((Below.refl _ _).alloc (Nat.le_refl _) _) | exact ((Below.refl _ _).alloc (Nat.le_refl _) _).trans (hb1.mono (by simp))⟩
  all_goals rw [Bool.eq_iff_iff]
  all_goals simp [recB, recP, overB, overP, inB] at *
  all_goals grind
end Go.Proofs.Ytjcpjijihajopaa
namespace Go.Proofs.Ytjcpjijihajopaa
open Go.RowKit
set_option linter.unusedVariables false
theorem Slc.rec7 {w : World} {lo hi n c : Nat} {A : Option Addr} {ds : List RecD} (h : Slc w lo hi 7 A n c (recs ds)) {k : Nat} (hk : k < n) :
    ∃ b off d, A = some ⟨b, off, none⟩ ∧ lo ≤ b ∧ b < hi ∧ b < w.heap.size ∧ ds[k]? = some d ∧ w.cell? ⟨b, off + k * 7, none⟩ = some (.int .i64 d.c) ∧ w.cell? ⟨b, off + k * 7 + 1, none⟩ = some (.int .i64 d.l) ∧ w.cell? ⟨b, off + k * 7 + 2, none⟩ = some (.int .i64 d.o) ∧ w.cell? ⟨b, off + k * 7 + 3, none⟩ = some (.int .i64 d.f) ∧ w.cell? ⟨b, off + k * 7 + 4, none⟩ = some (.int .i64 d.h) ∧ w.cell? ⟨b, off + k * 7 + 5, none⟩ = some (.int .i64 d.t) ∧ w.cell? ⟨b, off + k * 7 + 6, none⟩ = some (.string d.e) := by
  obtain ⟨b, off, d, e, h1, h2, h3, hd, ⟨c0, c1, c2, c3, c4, c5, c6⟩⟩ := h.recAt hk
  exact ⟨b, off, d, e, h1, h2, h3, hd, c0, c1, c2, c3, c4, c5, c6⟩
theorem info_rec : (Try.prog.info? 50).map (fun i => (i.zero, i.size, i.bytes)) = some (some (.agg #[.int .i64 0, .int .i64 0, .int .i64 0, .int .i64 0, .int .i64 0, .int .i64 0, .string ⟨#[]⟩]), 7, 64) := by kernel_rfl
end Go.Proofs.Ytjcpjijihajopaa
namespace Go.Proofs.Ytjcpjijihajopaa
open Go.RowKit
set_option linter.unusedVariables false
end Go.Proofs.Ytjcpjijihajopaa
namespace Go.Proofs.Ytjcpjijihajopaa
open Go.RowKit
set_option linter.unusedVariables false
theorem allF_snoc {α : Type} {p : α → Bool} {l : List α} {k : Nat} {a : α} (h : ∀ j, j < k → ∀ b, l[j]? = some b → p b = true) (hk : l[k]? = some a) (ha : p a = true) : ∀ j, j < k + 1 → ∀ b, l[j]? = some b → p b = true := by
  intro j hj b hb
  by_cases e : j = k
  · subst e; rw [hk] at hb; injection hb with hb; subst hb; exact ha
  · exact h j (by omega) b hb
theorem allF_of {α : Type} {p : α → Bool} {l : List α} {k : Nat} (h : ∀ j, j < k → ∀ b, l[j]? = some b → p b = true) (hk : l.length ≤ k) : l.all p = true := by
  rw [List.all_eq_true]; intro a ha
  obtain ⟨j, hj, e⟩ := List.mem_iff_getElem.1 ha
  exact h j (by omega) a (by rw [List.getElem?_eq_getElem hj, e])
theorem allF_not {α : Type} {p : α → Bool} {l : List α} {k : Nat} {a : α} (hk : l[k]? = some a) (ha : p a = false) : l.all p = false := by
  rw [List.all_eq_false]; exact ⟨a, List.mem_of_getElem? hk, by simp [ha]⟩
def recOk (d : RecD) : Bool := recB d.c d.l d.o d.f d.h d.t d.e.toList
def validR (ds : List RecD) : Bool := decide (ds.length ≤ 60) && ds.all recOk
def lateB (k : Int) (d : RecD) : Bool := decide (d.f ≤ k ∧ d.h ≤ k ∧ d.t ≤ k)
def clockB (ds : List RecD) (k : Int) : Bool := validR ds && decide (0 ≤ k ∧ k ≤ 3600) && ds.all (lateB k)
theorem validR_not {ds : List RecD} (h : ds.all recOk = false) : validR ds = false := by simp only [validR, h, Bool.and_false]
theorem validR_all {ds : List RecD} (h : ds.all recOk = true) : validR ds = decide (ds.length ≤ 60) := by simp only [validR, h, Bool.and_true]
theorem validR_len {ds : List RecD} (h : ¬ ds.length ≤ 60) : validR ds = false := by simp only [validR, h, decide_false, Bool.false_and]
theorem recOk_spec (d : RecD) (w : World) : Calls Try.prog 58 #[.agg #[.int .i64 d.c, .int .i64 d.l, .int .i64 d.o, .int .i64 d.f, .int .i64 d.h, .int .i64 d.t, .string d.e]] w fun x w' => x = .returned (.bool (recOk d)) ∧ Below w.heap.size w w' := spec_RecordValid _ _ _ _ _ _ _ _
theorem recOk_impl (d : RecD) (w : World) : Calls Try.prog 53 #[.agg #[.int .i64 d.c, .int .i64 d.l, .int .i64 d.o, .int .i64 d.f, .int .i64 d.h, .int .i64 d.t, .string d.e]] w fun x w' => x = .returned (.bool (recOk d)) ∧ Below w.heap.size w w' := impl_RecordValid _ _ _ _ _ _ _ _
set_option maxHeartbeats 1000000 in
theorem spec_l8Valid (lo hi n c : Nat) (A : Option Addr) (ds : List RecD) (w : World) (h : Slc w lo hi 7 A n c (recs ds)) (hn : n ≤ 1048576) :
    Calls Try.prog 41 #[.slice A n c] w fun e w' => e = .returned (.bool (validR ds)) ∧ Below w.heap.size w w' := by
  have hl := Lib.hid h.recLen
  go_enter Try.func41, Try.ntmps41
  go_wp2
  go_loopw [3] (fun i wr => ∃ k : Nat, k ≤ n ∧ i = .int .i64 k ∧ Below w.heap.size w wr ∧ ∀ j, j < k → ∀ b, ds[j]? = some b → recOk b = true) (fun i _ => n - (intOf i).toNat)
  case atStart => exact ⟨0, Nat.zero_le _, rfl, Below.refl _ _, fun j hj => absurd hj (by omega)⟩
  case round =>
    obtain ⟨k, hk, rfl, B, hcs⟩ := hrel
    have HC := Lib.hid hcs
    clear hcs
    by_cases hlt : k < n
    · obtain ⟨b, off, d, hA, _, _, h3, hxk, hv0, hv1, hv2, hv3, hv4, hv5, hv6⟩ := (h.below B).rec7 hlt
      subst hA
      have HX := Lib.hid hxk
      clear hxk h
      obtain ⟨t, ht⟩ : ∃ t, t = recOk d := ⟨_, rfl⟩
      have HT := Lib.hid ht
      clear ht
      go_wp2_with fail
      refine (recOk_spec d _).mono ?_
      rintro e w1 ⟨rfl, b1⟩
      have B1 := below_step B b1
      rw [← HT.out]
      clear hv0 hv1 hv2 hv3 hv4 hv5 hv6 h3 b1 B
      cases t
      · go_wp2
        go_ret
        exact ⟨ret_bool (by symm; rw [validR_not (allF_not HX.out HT.out.symm)]), B1⟩
      · go_wp2
        go_roundw
        case rel => exact ⟨k + 1, by omega, by go_num, B1, allF_snoc HC.out HX.out HT.out.symm⟩
        case measure => simp [intOf]; omega
    · have e : n = k := by omega
      subst e
      have HA := Lib.hid (allF_of (p := recOk) HC.out (by rw [hl.out]; exact Nat.le_refl _))
      clear h
      by_cases h60 : n ≤ 60
      · go_wp2
        go_ret
        exact ⟨ret_bool (by symm; rw [validR_all HA.out, hl.out]; simp [h60]; omega), B⟩
      · go_wp2
        go_ret
        exact ⟨ret_bool (by symm; rw [validR_all HA.out, hl.out]; simp [h60]; omega), B⟩
set_option maxHeartbeats 1000000 in
theorem impl_recordsValid (lo hi n c : Nat) (A : Option Addr) (ds : List RecD) (w : World) (h : Slc w lo hi 7 A n c (recs ds)) (hn : n ≤ 1048576) :
    Calls Try.prog 45 #[.slice A n c] w fun e w' => e = .returned (.bool (validR ds)) ∧ Below w.heap.size w w' := by
  have hl := Lib.hid h.recLen
  by_cases h60 : n ≤ 60
  · go_enter Try.func45, Try.ntmps45
    go_wp2
    go_loopw [10] (fun i wr => ∃ k : Nat, k ≤ n ∧ i = .int .i64 k ∧ Below w.heap.size w wr ∧ ∀ j, j < k → ∀ b, ds[j]? = some b → recOk b = true) (fun i _ => n - (intOf i).toNat)
    case atStart => exact ⟨0, Nat.zero_le _, rfl, Below.refl _ _, fun j hj => absurd hj (by omega)⟩
    case round =>
      obtain ⟨k, hk, rfl, B, hcs⟩ := hrel
      have HC := Lib.hid hcs
      clear hcs
      by_cases hlt : k < n
      · obtain ⟨b, off, d, hA, _, _, h3, hxk, hv0, hv1, hv2, hv3, hv4, hv5, hv6⟩ := (h.below B).rec7 hlt
        subst hA
        have HX := Lib.hid hxk
        clear hxk h
        obtain ⟨t, ht⟩ : ∃ t, t = recOk d := ⟨_, rfl⟩
        have HT := Lib.hid ht
        clear ht
        go_wp2_with fail
        refine (recOk_impl d _).mono ?_
        rintro e w1 ⟨rfl, b1⟩
        have B1 := below_step (below_al B _) b1
        rw [← HT.out]
        clear hv0 hv1 hv2 hv3 hv4 hv5 hv6 h3 b1 B
        cases t
        · go_wp2
          go_ret
          exact ⟨ret_bool (by symm; rw [validR_not (allF_not HX.out HT.out.symm)]), B1⟩
        · go_wp2
          go_roundw
          case rel => exact ⟨k + 1, by omega, by go_num, B1, allF_snoc HC.out HX.out HT.out.symm⟩
          case measure => simp [intOf]; omega
      · have e : n = k := by omega
        subst e
        have HA := Lib.hid (allF_of (p := recOk) HC.out (by rw [hl.out]; exact Nat.le_refl _))
        clear h
        go_wp2
        go_ret
        exact ⟨ret_bool (by symm; rw [validR_all HA.out, hl.out]; simp [h60]), B⟩
  · clear h
    go_enter Try.func45, Try.ntmps45
    go_wp2
    go_ret
    exact ⟨ret_bool (by symm; rw [validR_len (by rw [hl.out]; exact h60)]), Below.refl _ _⟩
def endF (k : Int) (d : RecD) : Int := if d.t = -1 then k else d.t
set_option maxHeartbeats 1000000 in
theorem impl_endAt (d : RecD) (k : Int) (w : World) : Calls Try.prog 37 #[.agg #[.int .i64 d.c, .int .i64 d.l, .int .i64 d.o, .int .i64 d.f, .int .i64 d.h, .int .i64 d.t, .string d.e], .int .i64 k] w fun x w' => x = .returned (.int .i64 (endF k d)) ∧ Below w.heap.size w w' := by
  go_enter Try.func37, Try.ntmps37
  go_wp2
  all_goals go_ret
  all_goals refine ⟨ret_int ?_, below_al (Below.refl _ _) _⟩
  all_goals simp_all [endF]
set_option maxHeartbeats 1000000 in
theorem spec_l8To (d : RecD) (k : Int) (w : World) : Calls Try.prog 32 #[.agg #[.int .i64 d.c, .int .i64 d.l, .int .i64 d.o, .int .i64 d.f, .int .i64 d.h, .int .i64 d.t, .string d.e], .int .i64 k] w fun x w' => x = .returned (.int .i64 (if d.t < 0 then k else d.t)) ∧ Below w.heap.size w w' := by
  go_enter Try.func32, Try.ntmps32
  go_wp2
  all_goals go_ret
  all_goals refine ⟨ret_int ?_, below_al (Below.refl _ _) _⟩
  all_goals simp_all
  all_goals omega
end Go.Proofs.Ytjcpjijihajopaa
namespace Go.Proofs.Ytjcpjijihajopaa
open Go.RowKit
set_option linter.unusedVariables false
theorem clockB_valid {ds : List RecD} {k : Int} (h : validR ds = false) : clockB ds k = false := by simp only [clockB, h, Bool.false_and]
theorem clockB_late {ds : List RecD} {k : Int} (h : ds.all (lateB k) = false) : clockB ds k = false := by simp only [clockB, h, Bool.and_false]
theorem clockB_range {ds : List RecD} {k : Int} (h : ¬ (0 ≤ k ∧ k ≤ 3600)) : clockB ds k = false := by simp only [clockB, h, decide_false, Bool.and_false, Bool.false_and]
theorem clockB_all {ds : List RecD} {k : Int} (h : ds.all (lateB k) = true) : clockB ds k = (validR ds && decide (0 ≤ k ∧ k ≤ 3600)) := by simp only [clockB, h, Bool.and_true]
section
variable {w W W' : World} {a0 a1 a2 : Addr} {v0 v1 v2 : Value}
theorem held3_below (hb : Below W.heap.size W W') (h : W.cell? a0 = some v0 ∧ W.cell? a1 = some v1 ∧ W.cell? a2 = some v2 ∧ Below w.heap.size w W) : W'.cell? a0 = some v0 ∧ W'.cell? a1 = some v1 ∧ W'.cell? a2 = some v2 ∧ Below w.heap.size w W' := by
  have e : ∀ {a : Addr} {v : Value}, W.cell? a = some v → W'.cell? a = some v := fun {a v} hv => (World.cell?_of_block (hb.block _ (World.block_lt_of_cell? W _ hv))).trans hv
  exact ⟨e h.1, e h.2.1, e h.2.2.1, below_step h.2.2.2 hb⟩
theorem held3_drew (h : W.cell? a0 = some v0 ∧ W.cell? a1 = some v1 ∧ W.cell? a2 = some v2 ∧ Below w.heap.size w W) : W.drew.cell? a0 = some v0 ∧ W.drew.cell? a1 = some v1 ∧ W.drew.cell? a2 = some v2 ∧ Below w.heap.size w W.drew :=
  ⟨h.1, h.2.1, h.2.2.1, ⟨h.2.2.2.os, h.2.2.2.tape, h.2.2.2.output, h.2.2.2.size, h.2.2.2.block⟩⟩
end
set_option maxHeartbeats 2000000 in
theorem spec_l8Clock (lo hi n c : Nat) (A : Option Addr) (ds : List RecD) (q : Int) (w : World) (h : Slc w lo hi 7 A n c (recs ds)) (hn : n ≤ 1048576) :
    Calls Try.prog 30 #[.slice A n c, .int .i64 q] w fun e w' => e = .returned (.bool (clockB ds q)) ∧ Below w.heap.size w w' := by
  have hl := Lib.hid h.recLen
  go_enter Try.func30, Try.ntmps30
  go_wp2
  go_loopw [5] (fun i wr => ∃ k : Nat, k ≤ n ∧ i = .int .i64 k ∧ Below w.heap.size w wr ∧ ∀ j, j < k → ∀ b, ds[j]? = some b → lateB q b = true) (fun i _ => n - (intOf i).toNat)
  case atStart => exact ⟨0, Nat.zero_le _, rfl, Below.refl _ _, fun j hj => absurd hj (by omega)⟩
  case round =>
    obtain ⟨k, hk, rfl, B, hcs⟩ := hrel
    have HC := Lib.hid hcs
    clear hcs
    by_cases hlt : k < n
    · obtain ⟨b, off, d, hA, _, _, h3, hxk, hv0, hv1, hv2, hv3, hv4, hv5, hv6⟩ := (h.below B).rec7 hlt
      subst hA
      have HX := Lib.hid hxk
      have S0 : wr.cell? ⟨b, off + k * 7 + 3, none⟩ = some (.int .i64 d.f) ∧ wr.cell? ⟨b, off + k * 7 + 4, none⟩ = some (.int .i64 d.h) ∧ wr.cell? ⟨b, off + k * 7 + 5, none⟩ = some (.int .i64 d.t) ∧ Below w.heap.size w wr := ⟨hv3, hv4, hv5, B⟩
      clear hxk h hv0 hv1 hv2 hv3 hv4 hv5 hv6 h3 B
      have i0 : (0 : Int) ≤ (k : Int) := by omega
      have i1 : (k : Int) < (n : Int) := by omega
      go_wp2_with fail
      go_region_held3 (fun W => W.cell? ⟨b, off + k * 7 + 3, none⟩ = some (.int .i64 d.f) ∧ W.cell? ⟨b, off + k * 7 + 4, none⟩ = some (.int .i64 d.h) ∧ W.cell? ⟨b, off + k * 7 + 5, none⟩ = some (.int .i64 d.t) ∧ Below w.heap.size w W)
        (first | exact held3_drew S0 | exact held3_below (by assumption) (by assumption) | exact held3_drew (by assumption))
        (first | fail)
      have S2 : Below w.heap.size w wr.drew := ⟨S0.2.2.2.os, S0.2.2.2.tape, S0.2.2.2.output, S0.2.2.2.size, S0.2.2.2.block⟩
      clear S0
      have ht : decide (q < if (if d.f < d.h then d.h else d.f) < d.t then d.t else if d.f < d.h then d.h else d.f) = !(lateB q d) := by
        rw [Bool.eq_iff_iff]
        simp only [lateB, decide_eq_true_eq, Bool.not_eq_true', decide_eq_false_iff_not]
        by_cases h1 : d.f < d.h
        · rw [if_pos h1]; by_cases h2 : d.h < d.t
          · rw [if_pos h2]; omega
          · rw [if_neg h2]; omega
        · rw [if_neg h1]; by_cases h2 : d.f < d.t
          · rw [if_pos h2]; omega
          · rw [if_neg h2]; omega
      rw [ht]
      obtain ⟨t, htt⟩ : ∃ t, t = !(lateB q d) := ⟨_, rfl⟩
      rw [← htt]
      have HT := Lib.hid htt
      clear ht htt
      cases t
      · have HT2 := Lib.hid (show lateB q d = true by have := HT.out; revert this; cases lateB q d <;> simp)
        go_wp2
        go_roundw
        case rel => exact ⟨k + 1, by omega, by go_num, S2, allF_snoc HC.out HX.out HT2.out⟩
        case measure => simp [intOf]; omega
      · have HT2 := Lib.hid (show lateB q d = false by have := HT.out; revert this; cases lateB q d <;> simp)
        go_wp2
        all_goals go_ret
        all_goals exact ⟨ret_bool (by symm; rw [clockB_late (allF_not HX.out HT2.out)]), S2⟩
    · have e : n = k := by omega
      subst e
      have HA := Lib.hid (allF_of (p := lateB q) HC.out (by rw [hl.out]; exact Nat.le_refl _))
      have hb := h.below B
      clear h
      obtain ⟨t, ht⟩ : ∃ t, t = validR ds := ⟨_, rfl⟩
      have HT := Lib.hid ht
      clear ht
      go_wp2_with fail
      refine (spec_l8Valid _ _ _ _ _ _ _ hb hn).mono ?_
      rintro e w1 ⟨rfl, b1⟩
      rw [← HT.out]
      have B1 := below_step B b1
      clear hb b1 B
      cases t
      · go_wp2
        go_ret
        exact ⟨ret_bool (by symm; rw [clockB_valid HT.out.symm]), B1⟩
      · go_wp2_with ((go_at_call 31; refine (l1In_any _ _ _ _).mono ?_; rintro e w' ⟨rfl, rfl⟩))
        go_ret
        exact ⟨ret_bool (by symm; rw [clockB_all HA.out, ← HT.out]; simp [inB]), B1⟩
set_option maxHeartbeats 2000000 in
theorem impl_clockValid (lo hi n c : Nat) (A : Option Addr) (ds : List RecD) (q : Int) (w : World) (h : Slc w lo hi 7 A n c (recs ds)) (hn : n ≤ 1048576) :
    Calls Try.prog 34 #[.slice A n c, .int .i64 q] w fun e w' => e = .returned (.bool (clockB ds q)) ∧ Below w.heap.size w w' := by
  have hl := Lib.hid h.recLen
  obtain ⟨t, ht⟩ : ∃ t, t = validR ds := ⟨_, rfl⟩
  have HT := Lib.hid ht
  clear ht
  go_enter Try.func34, Try.ntmps34
  go_wp2_with fail
  refine (impl_recordsValid _ _ _ _ _ _ _ h hn).mono ?_
  rintro e w0 ⟨rfl, b0⟩
  rw [← HT.out]
  have h0 := h.below b0
  have B0 := below_step (Below.refl _ _) b0
  clear h b0
  cases t
  · clear h0
    go_wp2
    go_ret
    exact ⟨ret_bool (by symm; rw [clockB_valid HT.out.symm]), B0⟩
  · by_cases hq : 0 ≤ q ∧ q ≤ 3600
    · obtain ⟨q0, q1⟩ := hq
      go_wp2
      go_loopw [20] (fun i wr => ∃ k : Nat, k ≤ n ∧ i = .int .i64 k ∧ Below w0.heap.size w0 wr ∧ ∀ j, j < k → ∀ b, ds[j]? = some b → lateB q b = true) (fun i _ => n - (intOf i).toNat)
      case atStart => exact ⟨0, Nat.zero_le _, rfl, Below.refl _ _, fun j hj => absurd hj (by omega)⟩
      case round =>
        obtain ⟨k, hk, rfl, B, hcs⟩ := hrel
        have HC := Lib.hid hcs
        clear hcs
        by_cases hlt : k < n
        · obtain ⟨b, off, d, hA, _, _, h3, hxk, hv0, hv1, hv2, hv3, hv4, hv5, hv6⟩ := (h0.below B).rec7 hlt
          subst hA
          have HX := Lib.hid hxk
          clear hxk h0
          by_cases hd : d.f ≤ q ∧ d.h ≤ q ∧ d.t ≤ q
          · obtain ⟨d0, d1, d2⟩ := hd
            have e0 : ¬ q < d.f := by omega
            have e1 : ¬ q < d.h := by omega
            have e2 : ¬ q < d.t := by omega
            have HD := Lib.hid (show lateB q d = true by simp [lateB, d0, d1, d2])
            clear d0 d1 d2
            go_wp2
            go_roundw
            case rel => exact ⟨k + 1, by omega, by go_num, below_al B _, allF_snoc HC.out HX.out HD.out⟩
            case measure => simp [intOf]; omega
          · have HD := Lib.hid (show lateB q d = false by simp only [lateB, hd, decide_false])
            have HN := Lib.hid hd
            clear hd
            go_wp2
            all_goals first
              | (go_ret; exact ⟨ret_bool (by symm; rw [clockB_late (allF_not HX.out HD.out)]), B0.trans ((below_al B _).mono B0.size)⟩)
              | (exfalso; have := HN.out; omega)
        · have e : n = k := by omega
          subst e
          have HA := Lib.hid (allF_of (p := lateB q) HC.out (by rw [hl.out]; exact Nat.le_refl _))
          clear h0
          go_wp2
          go_ret
          exact ⟨ret_bool (by symm; rw [clockB_all HA.out, ← HT.out]; simp [q0, q1]), B0.trans (B.mono B0.size)⟩
    · have HQ := Lib.hid hq
      clear hq h0
      go_wp2
      all_goals first
        | (go_ret; exact ⟨ret_bool (by symm; rw [clockB_range HQ.out]), B0⟩)
        | (exfalso; have := HQ.out; omega)
end Go.Proofs.Ytjcpjijihajopaa
namespace Go.Proofs.Ytjcpjijihajopaa
open Go.RowKit
set_option linter.unusedVariables false
def sumR (f : RecD → Int) (ds : List RecD) : Int := (ds.map f).sum
theorem sumR_succ {f : RecD → Int} {ds : List RecD} {k : Nat} {d : RecD} (h : ds[k]? = some d) : sumR f (ds.take (k + 1)) = sumR f (ds.take k) + f d := by
  unfold sumR
  rw [List.take_add_one, h]
  simp
theorem sumR_bound {f : RecD → Int} {ds : List RecD} (h : ∀ d ∈ ds, 0 ≤ f d ∧ f d ≤ 3600) (k : Nat) : 0 ≤ sumR f (ds.take k) ∧ sumR f (ds.take k) ≤ 3600 * k := by
  induction k with
  | zero => simp [sumR]
  | succ k ih =>
    by_cases hk : k < ds.length
    · rw [sumR_succ (List.getElem?_eq_getElem hk)]
      have := h ds[k] (List.getElem_mem hk)
      push_cast
      omega
    · rw [List.take_of_length_le (by omega)]
      rw [List.take_of_length_le (by omega)] at ih
      push_cast
      omega
def busyF (l k : Int) (d : RecD) : Int := if d.l = l then endF k d - d.f else 0
def busyM (ds : List RecD) (l k : Int) : Int := if clockB ds k = true ∧ 1 ≤ l ∧ l ≤ 6 then sumR (busyF l k) ds else -1
theorem clockB_parts {ds : List RecD} {k : Int} (h : clockB ds k = true) : ds.length ≤ 60 ∧ 0 ≤ k ∧ k ≤ 3600 ∧ ∀ d ∈ ds, recOk d = true ∧ d.f ≤ k ∧ d.h ≤ k ∧ d.t ≤ k := by
  simp only [clockB, validR, lateB, Bool.and_eq_true, decide_eq_true_eq, List.all_eq_true] at h
  exact ⟨h.1.1.1, h.1.2.1, h.1.2.2, fun d hd => ⟨h.1.1.2 d hd, h.2 d hd⟩⟩
theorem recOk_times {d : RecD} {k : Int} (h : recOk d = true) (hk : d.f ≤ k ∧ d.h ≤ k ∧ d.t ≤ k) (k1 : k ≤ 3600) : 1 ≤ d.c ∧ d.c ≤ 99 ∧ 1 ≤ d.l ∧ d.l ≤ 6 ∧ 0 ≤ d.f ∧ d.f ≤ 3600 ∧ -1 ≤ d.t ∧ d.t ≤ 3600 ∧ -1 ≤ d.h ∧ d.h ≤ 3600 ∧ (d.t ≠ -1 → d.f ≤ d.t) ∧ (d.h ≠ -1 → d.f ≤ d.h) ∧ 0 ≤ endF k d - d.f ∧ endF k d - d.f ≤ 3600 ∧ -1 ≤ endF k d ∧ endF k d ≤ 3600 := by
  have h' : recP d.c d.l d.o d.f d.h d.t d.e.toList := of_decide_eq_true h
  unfold recP at h'
  unfold endF
  split <;> omega
theorem busyF_bound {ds : List RecD} {l k : Int} (h : clockB ds k = true) : ∀ d ∈ ds, 0 ≤ busyF l k d ∧ busyF l k d ≤ 3600 := by
  intro d hd
  obtain ⟨_, _, k1, hall⟩ := clockB_parts h
  obtain ⟨h1, h2⟩ := hall d hd
  have := recOk_times h1 h2 k1
  unfold busyF
  split <;> omega
section
variable {w W W' : World} {a0 a1 a2 a3 a4 a5 a6 : Addr} {v0 v1 v2 v3 v4 v5 v6 : Value}
theorem held7_below (hb : Below W.heap.size W W')
    (h : W.cell? a0 = some v0 ∧ W.cell? a1 = some v1 ∧ W.cell? a2 = some v2 ∧ W.cell? a3 = some v3 ∧ W.cell? a4 = some v4 ∧ W.cell? a5 = some v5 ∧ W.cell? a6 = some v6 ∧ Below w.heap.size w W) :
    W'.cell? a0 = some v0 ∧ W'.cell? a1 = some v1 ∧ W'.cell? a2 = some v2 ∧ W'.cell? a3 = some v3 ∧ W'.cell? a4 = some v4 ∧ W'.cell? a5 = some v5 ∧ W'.cell? a6 = some v6 ∧ Below w.heap.size w W' := by
  have e : ∀ {a : Addr} {v : Value}, W.cell? a = some v → W'.cell? a = some v := fun {a v} hv => (World.cell?_of_block (hb.block _ (World.block_lt_of_cell? W _ hv))).trans hv
  obtain ⟨h0, h1, h2, h3, h4, h5, h6, h7⟩ := h
  exact ⟨e h0, e h1, e h2, e h3, e h4, e h5, e h6, below_step h7 hb⟩
theorem held7_drew
    (h : W.cell? a0 = some v0 ∧ W.cell? a1 = some v1 ∧ W.cell? a2 = some v2 ∧ W.cell? a3 = some v3 ∧ W.cell? a4 = some v4 ∧ W.cell? a5 = some v5 ∧ W.cell? a6 = some v6 ∧ Below w.heap.size w W) :
    W.drew.cell? a0 = some v0 ∧ W.drew.cell? a1 = some v1 ∧ W.drew.cell? a2 = some v2 ∧ W.drew.cell? a3 = some v3 ∧ W.drew.cell? a4 = some v4 ∧ W.drew.cell? a5 = some v5 ∧ W.drew.cell? a6 = some v6 ∧ Below w.heap.size w W.drew := by
  obtain ⟨h0, h1, h2, h3, h4, h5, h6, h7⟩ := h
  exact ⟨h0, h1, h2, h3, h4, h5, h6, ⟨h7.os, h7.tape, h7.output, h7.size, h7.block⟩⟩
end
set_option maxHeartbeats 4000000 in
set_option maxRecDepth 20000 in
theorem spec_BusyMinutes (lo hi n c : Nat) (A : Option Addr) (ds : List RecD) (l q : Int) (w : World) (h : Slc w lo hi 7 A n c (recs ds)) (hn : n ≤ 1048576) :
    Calls Try.prog 10 #[.slice A n c, .int .i64 l, .int .i64 q] w fun e w' => e = .returned (.int .i64 (busyM ds l q)) ∧ Below w.heap.size w w' := by
  have hl := Lib.hid h.recLen
  obtain ⟨t, ht⟩ : ∃ t, t = clockB ds q := ⟨_, rfl⟩
  have HT := Lib.hid ht
  clear ht
  go_enter Try.func10, Try.ntmps10
  go_wp2_with fail
  refine (spec_l8Clock _ _ _ _ _ _ _ _ h hn).mono ?_
  rintro e w0 ⟨rfl, b0⟩
  rw [← HT.out]
  have h0 := h.below b0
  have B0 := below_step (Below.refl _ _) b0
  clear h b0
  cases t
  · clear h0
    go_wp2
    go_ret
    exact ⟨ret_int (by symm; unfold busyM; rw [← HT.out]; simp), B0⟩
  · by_cases hq : 1 ≤ l ∧ l ≤ 6
    · obtain ⟨q0, q1⟩ := hq
      have HB := Lib.hid (show inB l 1 6 = true by simp [inB, q0, q1])
      have HM := Lib.hid (show busyM ds l q = sumR (busyF l q) ds by unfold busyM; rw [if_pos ⟨HT.out.symm, q0, q1⟩])
      have HP := Lib.hid (clockB_parts HT.out.symm)
      have HS := Lib.hid (sumR_bound (busyF_bound (l := l) HT.out.symm))
      go_wp2_with ((go_at_call 31; refine (l1In_any _ _ _ _).mono ?_; rintro e w' ⟨rfl, hww⟩; obtain rfl := hww.symm; rw [HB.out]))
      go_loopw [7, 8] (fun s i wr => ∃ k : Nat, k ≤ n ∧ s = .int .i64 (sumR (busyF l q) (ds.take k)) ∧ i = .int .i64 k ∧ Below w0.heap.size w0 wr) (fun _ i _ => n - (intOf i).toNat)
      case atStart => exact ⟨0, Nat.zero_le _, by simp [sumR], rfl, Below.refl _ _⟩
      case round =>
        obtain ⟨k, hk, rfl, rfl, B⟩ := hrel
        by_cases hlt : k < n
        · obtain ⟨b, off, d, hA, _, _, h3, hxk, hv0, hv1, hv2, hv3, hv4, hv5, hv6⟩ := (h0.below B).rec7 hlt
          subst hA
          have HX := Lib.hid (sumR_succ (f := busyF l q) hxk)
          have hd := List.mem_of_getElem? hxk
          have HD := Lib.hid (HP.out.2.2.2 d hd)
          have hrt := recOk_times HD.out.1 HD.out.2 HP.out.2.2.1
          have hs := HS.out k
          have hl60 := HP.out.1
          have hll := hl.out
          have i0 : (0 : Int) ≤ (k : Int) := by omega
          have i1 : (k : Int) < (n : Int) := by omega
          by_cases hdl : d.l = l
          · subst hdl
            have HF := Lib.hid (show busyF d.l q d = endF q d - d.f by unfold busyF; rw [if_pos rfl])
            have HE := Lib.hid (show (if d.t < 0 then q else d.t) = endF q d by unfold endF; split <;> split <;> omega)
            obtain ⟨E, hE⟩ : ∃ E, E = endF q d := ⟨_, rfl⟩
            obtain ⟨s, hs'⟩ : ∃ s, s = sumR (busyF d.l q) (ds.take k) := ⟨_, rfl⟩
            rw [← hE] at HF HE hrt
            rw [← hs'] at HX hs ⊢
            have r0 : -9223372036854775808 ≤ s + E ∧ s + E ≤ 9223372036854775807 := by omega
            have r1 : -9223372036854775808 ≤ s + E - d.f ∧ s + E - d.f ≤ 9223372036854775807 := by omega
            have HR := Lib.hid hrt
            have W1 := (IntWalk.i64_left _).trans (IntWalk.wrap64_in _ r0)
            have W2 := (IntWalk.i64_left _).trans (IntWalk.wrap64_in _ r1)
            have S0 : wr.cell? ⟨b, off + k * 7, none⟩ = some (.int .i64 d.c) ∧ wr.cell? ⟨b, off + k * 7 + 1, none⟩ = some (.int .i64 d.l) ∧ wr.cell? ⟨b, off + k * 7 + 2, none⟩ = some (.int .i64 d.o) ∧ wr.cell? ⟨b, off + k * 7 + 3, none⟩ = some (.int .i64 d.f) ∧ wr.cell? ⟨b, off + k * 7 + 4, none⟩ = some (.int .i64 d.h) ∧ wr.cell? ⟨b, off + k * 7 + 5, none⟩ = some (.int .i64 d.t) ∧ wr.cell? ⟨b, off + k * 7 + 6, none⟩ = some (.string d.e) ∧ Below w0.heap.size w0 wr := ⟨hv0, hv1, hv2, hv3, hv4, hv5, hv6, B⟩
            clear hxk h0 hv0 hv1 hv2 hv3 hv4 hv5 hv6 h3 B hd hrt hs hl60 hll hE hs' r0 r1
            go_wp2_with fail
            go_region_held3 (fun W => W.cell? ⟨b, off + k * 7, none⟩ = some (.int .i64 d.c) ∧ W.cell? ⟨b, off + k * 7 + 1, none⟩ = some (.int .i64 d.l) ∧ W.cell? ⟨b, off + k * 7 + 2, none⟩ = some (.int .i64 d.o) ∧ W.cell? ⟨b, off + k * 7 + 3, none⟩ = some (.int .i64 d.f) ∧ W.cell? ⟨b, off + k * 7 + 4, none⟩ = some (.int .i64 d.h) ∧ W.cell? ⟨b, off + k * 7 + 5, none⟩ = some (.int .i64 d.t) ∧ W.cell? ⟨b, off + k * 7 + 6, none⟩ = some (.string d.e) ∧ Below w0.heap.size w0 W)
              (first | exact held7_drew S0 | exact held7_below (by assumption) (by assumption) | exact held7_drew (by assumption))
              (first | (go_at_call 32; refine (spec_l8To d q _).mono ?_; rintro x w2 ⟨rfl, b2⟩; rw [HE.out]))
            have S2 : Below w0.heap.size w0 w2 := by
              have S1 : w2.cell? ⟨b, off + k * 7, none⟩ = some (.int .i64 d.c) ∧ w2.cell? ⟨b, off + k * 7 + 1, none⟩ = some (.int .i64 d.l) ∧ w2.cell? ⟨b, off + k * 7 + 2, none⟩ = some (.int .i64 d.o) ∧ w2.cell? ⟨b, off + k * 7 + 3, none⟩ = some (.int .i64 d.f) ∧ w2.cell? ⟨b, off + k * 7 + 4, none⟩ = some (.int .i64 d.h) ∧ w2.cell? ⟨b, off + k * 7 + 5, none⟩ = some (.int .i64 d.t) ∧ w2.cell? ⟨b, off + k * 7 + 6, none⟩ = some (.string d.e) ∧ Below w0.heap.size w0 w2 := by assumption
              exact S1.2.2.2.2.2.2.2
            clear S0
            have HN := Lib.hid (show s + E - d.f = sumR (busyF d.l q) (ds.take (k + 1)) by rw [HX.out, HF.out]; omega)
            clear W1 W2
            go_wp2
            go_roundw
            case rel => exact ⟨k + 1, by omega, by rw [HN.out], by go_num, S2⟩
            case measure => simp [intOf]; omega
          · have HF := Lib.hid (show busyF l q d = 0 by unfold busyF; rw [if_neg hdl])
            clear hxk h0 hv0 hv2 hv3 hv4 hv5 hv6 h3 hd hrt hs hl60 hll
            go_wp2
            go_roundw
            case rel => exact ⟨k + 1, by omega, by rw [HX.out, HF.out, Int.add_zero], by go_num, B⟩
            case measure => simp [intOf]; omega
        · have e : n = k := by omega
          subst e
          have HE := Lib.hid (show ds.take n = ds by rw [List.take_of_length_le (by rw [hl.out]; exact Nat.le_refl _)])
          clear h0
          go_wp2
          go_ret
          exact ⟨ret_int (by rw [HM.out, HE.out]), B0.trans (B.mono B0.size)⟩
    · have HQ := Lib.hid (show inB l 1 6 = false by rw [← Bool.not_eq_true]; simpa [inB] using hq)
      have HM := Lib.hid (show busyM ds l q = -1 by unfold busyM; rw [if_neg (fun x => hq x.2)])
      clear hq h0
      go_wp2_with ((go_at_call 31; refine (l1In_any _ _ _ _).mono ?_; rintro e w' ⟨rfl, hww⟩; obtain rfl := hww.symm; rw [HQ.out]))
      go_ret
      exact ⟨ret_int HM.out.symm, B0⟩
end Go.Proofs.Ytjcpjijihajopaa
namespace Go.Proofs.Ytjcpjijihajopaa
open Go.RowKit
set_option linter.unusedVariables false
def untilF (k : Int) (d : RecD) : Int := if d.h = -1 then endF k d else d.h
def waitF (l k : Int) (d : RecD) : Int := if d.c = l then untilF k d - d.f else 0
def waitM (ds : List RecD) (l k : Int) : Int := if clockB ds k = true ∧ 1 ≤ l ∧ l ≤ 99 then sumR (waitF l k) ds else -1
theorem until_times {d : RecD} {k : Int} (h : recOk d = true) (hk : d.f ≤ k ∧ d.h ≤ k ∧ d.t ≤ k) (k1 : k ≤ 3600) : 0 ≤ untilF k d - d.f ∧ untilF k d - d.f ≤ 3600 ∧ -1 ≤ untilF k d ∧ untilF k d ≤ 3600 := by
  have := recOk_times h hk k1
  unfold untilF
  split <;> omega
theorem waitF_bound {ds : List RecD} {l k : Int} (h : clockB ds k = true) : ∀ d ∈ ds, 0 ≤ waitF l k d ∧ waitF l k d ≤ 3600 := by
  intro d hd
  obtain ⟨_, _, k1, hall⟩ := clockB_parts h
  obtain ⟨h1, h2⟩ := hall d hd
  have := until_times h1 h2 k1
  unfold waitF
  split <;> omega
set_option maxHeartbeats 4000000 in
set_option maxRecDepth 20000 in
theorem spec_WaitedMinutes (lo hi n c : Nat) (A : Option Addr) (ds : List RecD) (l q : Int) (w : World) (h : Slc w lo hi 7 A n c (recs ds)) (hn : n ≤ 1048576) :
    Calls Try.prog 14 #[.slice A n c, .int .i64 l, .int .i64 q] w fun e w' => e = .returned (.int .i64 (waitM ds l q)) ∧ Below w.heap.size w w' := by
  have hl := Lib.hid h.recLen
  obtain ⟨t, ht⟩ : ∃ t, t = clockB ds q := ⟨_, rfl⟩
  have HT := Lib.hid ht
  clear ht
  go_enter Try.func14, Try.ntmps14
  go_wp2_with fail
  refine (spec_l8Clock _ _ _ _ _ _ _ _ h hn).mono ?_
  rintro e w0 ⟨rfl, b0⟩
  rw [← HT.out]
  have h0 := h.below b0
  have B0 := below_step (Below.refl _ _) b0
  clear h b0
  cases t
  · clear h0
    go_wp2
    go_ret
    exact ⟨ret_int (by symm; unfold waitM; rw [← HT.out]; simp), B0⟩
  · by_cases hq : 1 ≤ l ∧ l ≤ 99
    · obtain ⟨q0, q1⟩ := hq
      have HB := Lib.hid (show inB l 1 99 = true by simp [inB, q0, q1])
      have HM := Lib.hid (show waitM ds l q = sumR (waitF l q) ds by unfold waitM; rw [if_pos ⟨HT.out.symm, q0, q1⟩])
      have HP := Lib.hid (clockB_parts HT.out.symm)
      have HS := Lib.hid (sumR_bound (waitF_bound (l := l) HT.out.symm))
      go_wp2_with ((go_at_call 31; refine (l1In_any _ _ _ _).mono ?_; rintro e w' ⟨rfl, hww⟩; obtain rfl := hww.symm; rw [HB.out]))
      go_loopw [7, 8] (fun s i wr => ∃ k : Nat, k ≤ n ∧ s = .int .i64 (sumR (waitF l q) (ds.take k)) ∧ i = .int .i64 k ∧ Below w0.heap.size w0 wr) (fun _ i _ => n - (intOf i).toNat)
      case atStart => exact ⟨0, Nat.zero_le _, by simp [sumR], rfl, Below.refl _ _⟩
      case round =>
        obtain ⟨k, hk, rfl, rfl, B⟩ := hrel
        by_cases hlt : k < n
        · obtain ⟨b, off, d, hA, _, _, h3, hxk, hv0, hv1, hv2, hv3, hv4, hv5, hv6⟩ := (h0.below B).rec7 hlt
          subst hA
          have HX := Lib.hid (sumR_succ (f := waitF l q) hxk)
          have hd := List.mem_of_getElem? hxk
          have HD := Lib.hid (HP.out.2.2.2 d hd)
          have hrt := recOk_times HD.out.1 HD.out.2 HP.out.2.2.1
          have hut := until_times HD.out.1 HD.out.2 HP.out.2.2.1
          have hs := HS.out k
          have hl60 := HP.out.1
          have hll := hl.out
          have i0 : (0 : Int) ≤ (k : Int) := by omega
          have i1 : (k : Int) < (n : Int) := by omega
          by_cases hdl : d.c = l
          · subst hdl
            have HF := Lib.hid (show waitF d.c q d = untilF q d - d.f by unfold waitF; rw [if_pos rfl])
            obtain ⟨s, hs'⟩ : ∃ s, s = sumR (waitF d.c q) (ds.take k) := ⟨_, rfl⟩
            rw [← hs'] at HX hs ⊢
            by_cases hh : d.h = -1
            · have HU := Lib.hid (show untilF q d = endF q d by unfold untilF; rw [if_pos hh])
              have HE := Lib.hid (show (if d.t < 0 then q else d.t) = endF q d by unfold endF; split <;> split <;> omega)
              obtain ⟨E, hE⟩ : ∃ E, E = endF q d := ⟨_, rfl⟩
              rw [HU.out] at HF
              rw [← hE] at HF HE hrt
              have r0 : -9223372036854775808 ≤ s + E ∧ s + E ≤ 9223372036854775807 := by omega
              have r1 : -9223372036854775808 ≤ s + E - d.f ∧ s + E - d.f ≤ 9223372036854775807 := by omega
              have hhn : d.h < 0 := by omega
              have W1 := (IntWalk.i64_left _).trans (IntWalk.wrap64_in _ r0)
              have W2 := (IntWalk.i64_left _).trans (IntWalk.wrap64_in _ r1)
              have S0 : wr.cell? ⟨b, off + k * 7, none⟩ = some (.int .i64 d.c) ∧ wr.cell? ⟨b, off + k * 7 + 1, none⟩ = some (.int .i64 d.l) ∧ wr.cell? ⟨b, off + k * 7 + 2, none⟩ = some (.int .i64 d.o) ∧ wr.cell? ⟨b, off + k * 7 + 3, none⟩ = some (.int .i64 d.f) ∧ wr.cell? ⟨b, off + k * 7 + 4, none⟩ = some (.int .i64 d.h) ∧ wr.cell? ⟨b, off + k * 7 + 5, none⟩ = some (.int .i64 d.t) ∧ wr.cell? ⟨b, off + k * 7 + 6, none⟩ = some (.string d.e) ∧ Below w0.heap.size w0 wr := ⟨hv0, hv1, hv2, hv3, hv4, hv5, hv6, B⟩
              clear hxk h0 h3 B hd hrt hut hs hl60 hll hE hs' r0 r1 hh HU
              go_wp2_with fail
              go_region_held3 (fun W => W.cell? ⟨b, off + k * 7, none⟩ = some (.int .i64 d.c) ∧ W.cell? ⟨b, off + k * 7 + 1, none⟩ = some (.int .i64 d.l) ∧ W.cell? ⟨b, off + k * 7 + 2, none⟩ = some (.int .i64 d.o) ∧ W.cell? ⟨b, off + k * 7 + 3, none⟩ = some (.int .i64 d.f) ∧ W.cell? ⟨b, off + k * 7 + 4, none⟩ = some (.int .i64 d.h) ∧ W.cell? ⟨b, off + k * 7 + 5, none⟩ = some (.int .i64 d.t) ∧ W.cell? ⟨b, off + k * 7 + 6, none⟩ = some (.string d.e) ∧ Below w0.heap.size w0 W)
                (first | exact held7_drew S0 | exact held7_below (by assumption) (by assumption) | exact held7_drew (by assumption))
                (first | (go_at_call 32; refine (spec_l8To d q _).mono ?_; rintro x w2 ⟨rfl, b2⟩; rw [HE.out]))
              have S2 : Below w0.heap.size w0 w2 := by
                have S1 : w2.cell? ⟨b, off + k * 7, none⟩ = some (.int .i64 d.c) ∧ w2.cell? ⟨b, off + k * 7 + 1, none⟩ = some (.int .i64 d.l) ∧ w2.cell? ⟨b, off + k * 7 + 2, none⟩ = some (.int .i64 d.o) ∧ w2.cell? ⟨b, off + k * 7 + 3, none⟩ = some (.int .i64 d.f) ∧ w2.cell? ⟨b, off + k * 7 + 4, none⟩ = some (.int .i64 d.h) ∧ w2.cell? ⟨b, off + k * 7 + 5, none⟩ = some (.int .i64 d.t) ∧ w2.cell? ⟨b, off + k * 7 + 6, none⟩ = some (.string d.e) ∧ Below w0.heap.size w0 w2 := by assumption
                exact S1.2.2.2.2.2.2.2
              clear S0
              have HN := Lib.hid (show s + E - d.f = sumR (waitF d.c q) (ds.take (k + 1)) by rw [HX.out, HF.out]; omega)
              clear W1 W2
              go_wp2
              go_roundw
              case rel => exact ⟨k + 1, by omega, by rw [HN.out], by go_num, S2⟩
              case measure => simp [intOf]; omega
            · have HU := Lib.hid (show untilF q d = d.h by unfold untilF; rw [if_neg hh])
              rw [HU.out] at HF
              have r0 : -9223372036854775808 ≤ s + d.h ∧ s + d.h ≤ 9223372036854775807 := by omega
              have r1 : -9223372036854775808 ≤ s + d.h - d.f ∧ s + d.h - d.f ≤ 9223372036854775807 := by omega
              have hhn : 0 ≤ d.h := by omega
              have W1 := (IntWalk.i64_left _).trans (IntWalk.wrap64_in _ r0)
              have W2 := (IntWalk.i64_left _).trans (IntWalk.wrap64_in _ r1)
              clear hxk h0 hv1 hv2 hv5 hv6 h3 hd hrt hut hs hl60 hll hs' r0 r1 hh HU
              go_wp2_with fail
              go_quiet (fail)
              have HN := Lib.hid (show s + d.h - d.f = sumR (waitF d.c q) (ds.take (k + 1)) by rw [HX.out, HF.out]; omega)
              clear W1 W2
              go_wp2
              go_roundw
              case rel => exact ⟨k + 1, by omega, by rw [HN.out], by go_num, ⟨B.os, B.tape, B.output, B.size, B.block⟩⟩
              case measure => simp [intOf]; omega
          · have HF := Lib.hid (show waitF l q d = 0 by unfold waitF; rw [if_neg hdl])
            clear hxk h0 hv1 hv2 hv3 hv4 hv5 hv6 h3 hd hrt hut hs hl60 hll
            go_wp2
            go_roundw
            case rel => exact ⟨k + 1, by omega, by rw [HX.out, HF.out, Int.add_zero], by go_num, B⟩
            case measure => simp [intOf]; omega
        · have e : n = k := by omega
          subst e
          have HE := Lib.hid (show ds.take n = ds by rw [List.take_of_length_le (by rw [hl.out]; exact Nat.le_refl _)])
          clear h0
          go_wp2
          go_ret
          exact ⟨ret_int (by rw [HM.out, HE.out]), B0.trans (B.mono B0.size)⟩
    · have HQ := Lib.hid (show inB l 1 99 = false by rw [← Bool.not_eq_true]; simpa [inB] using hq)
      have HM := Lib.hid (show waitM ds l q = -1 by unfold waitM; rw [if_neg (fun x => hq x.2)])
      clear hq h0
      go_wp2_with ((go_at_call 31; refine (l1In_any _ _ _ _).mono ?_; rintro e w' ⟨rfl, hww⟩; obtain rfl := hww.symm; rw [HQ.out]))
      go_ret
      exact ⟨ret_int HM.out.symm, B0⟩
end Go.Proofs.Ytjcpjijihajopaa
namespace Go.Proofs.Ytjcpjijihajopaa
open Go.RowKit
end Go.Proofs.Ytjcpjijihajopaa
namespace Go.Proofs.Ytjcpjijihajopaa
open Go.Joins Go.ChangeShapes Go.WideShapes Go.RowKit Go.Deep
set_option linter.unusedVariables false
section
variable {H : Type} {enc : TypeId × Value → H} {P : Program} {w : World} {base : Nat} {held : Bool}
theorem add_plain (b off j : Nat) : (Addr.mk b off none).add j = ⟨b, off + j, none⟩ := by unfold Addr.add; split <;> simp_all
theorem slice_block {t e : TypeId} {A : Option Addr} {n c : Nat} {r : Reach} (ht : P.underlying t = some (.slice e)) (h : Value.okWide P w r base t (.slice A n c)) : ∀ a, A = some a → a.spot = none ∧ ∃ cs T fz, w.heap[a.block]? = some (.cells cs T fz) := by
  intro a e
  subst e
  simp only [Value.okWide, ht, Cell.okWide, Cell.ok, World.has] at h
  obtain ⟨_, _, _, hsp, row, cells, hsh, _⟩ := h
  refine ⟨hsp, ?_⟩
  unfold World.shape? at hsh
  split at hsh
  · rename_i cs T fz hb
    exact ⟨cs, T, fz, hb⟩
  · cases hsh
end
end Go.Proofs.Ytjcpjijihajopaa
namespace Go.Proofs.Ytjcpjijihajopaa
open Go.RowKit
theorem gb_setCell {w : World} (a : Addr) (v : Value) : w.grownBy (w.setCell a v) (some a.block) :=
  ⟨rfl, rfl, rfl, by simp [World.setCell], fun i hi hne => Below.heap_setCell w a v i (fun e => hne (by rw [e]))⟩
theorem gb_drewN {a w : World} {row : Option Nat} (h : a.grownBy w row) (n : Nat) : a.grownBy (w.drewN n) row := ⟨h.os, h.tape, h.output, h.size, h.block⟩
theorem gb_trans {a b c : World} {row : Option Nat} (h : a.grownBy b row) (k : b.grownBy c row) : a.grownBy c row :=
  ⟨k.os.trans h.os, k.tape.trans h.tape, k.output.trans h.output, Nat.le_trans h.size k.size, fun i hi hne => (k.block i (Nat.lt_of_lt_of_le hi h.size) hne).trans (h.block i hi hne)⟩
theorem gb_below {a w : World} (h : Below a.heap.size a w) (row : Option Nat) : a.grownBy w row := ⟨h.os, h.tape, h.output, h.size, fun i hi _ => h.block i hi⟩
theorem below_of_gb {B g : Nat} {a w : World} (h : a.grownBy w (some g)) (hB : B ≤ g) (hg : B ≤ a.heap.size) : Below B a w :=
  ⟨h.os, h.tape, h.output, h.size, fun i hi => h.block i (Nat.lt_of_lt_of_le hi hg) (by simp; omega)⟩
structure Bytes (w : World) (g : Nat) (A : Option Addr) (n : Nat) : Prop where
  le : n ≤ 2000
  at_ : 0 < n → ∃ b off, A = some ⟨b, off, none⟩ ∧ b < g ∧ ∀ j, j < n → ∃ v : Int, w.cell? ⟨b, off + j, none⟩ = some (.int .u8 v) ∧ 0 ≤ v ∧ v ≤ 255
theorem Bytes.keep {w w' : World} {g n : Nat} {A : Option Addr} (h : Bytes w g A n) (k : ∀ b, b < g → w'.heap[b]? = w.heap[b]?) : Bytes w' g A n :=
  ⟨h.le, fun hn => by
    obtain ⟨b, off, e, hb, hj⟩ := h.at_ hn
    refine ⟨b, off, e, hb, fun j hjn => ?_⟩
    obtain ⟨v, hv, h0⟩ := hj j hjn
    exact ⟨v, (World.cell?_of_block (k b hb)).trans hv, h0⟩⟩
structure RdX (w : World) (g : Nat) (A : Option Addr) (n c p : Nat) : Prop where
  blk : w.heap[g]? = some (.cells #[.slice A n c, .int .i64 (p : Int)] 89)
  bytes : Bytes w g A n
  lt : p < 1000000000
def Drew (w : World) (g : Nat) (A : Option Addr) (n c p d : Nat) (K : Int → Prop) (e : Ending) (w' : World) : Prop :=
  ∃ r : Int, e = .returned (.int .i64 r) ∧ K r ∧ w'.heap[g]? = some (.cells #[.slice A n c, .int .i64 ((p + d : Nat) : Int)] 89) ∧ w.grownBy w' (some g)
set_option maxHeartbeats 2000000 in
theorem pick_zero (g p n c : Nat) (A : Option Addr) (m : Int) (w : World) (h : RdX w g A n c p) (hm : m < 1 ∨ n = 0) :
    Calls Try.prog 61 #[.pointer (some ⟨g, 0, none⟩), .int .i64 m] w (Drew w g A n c p 1 fun r => r = 0) := by
  have hc := blk_cell h.blk
  have hf : ∀ o, w.frozen? ⟨g, o, none⟩ = false := fun o => by simp [World.frozen?, h.blk]
  have hp := h.lt
  have hb := h.blk
  have hn := h.bytes.le
  have HB := Lib.hid hb
  clear h hb
  by_cases hm1 : m < 1
  · clear hm
    go_enter Try.func61, Try.ntmps61
    go_wp2
    go_ret
    exact ⟨0, rfl, rfl, (blk_setCell HB.out _).trans (by simp), gb_setCell _ _⟩
  · have hn0 : n = 0 := by rcases hm with h | h; exact absurd h hm1; exact h
    subst hn0
    clear hm
    go_enter Try.func61, Try.ntmps61
    go_wp2
    go_ret
    exact ⟨0, rfl, rfl, (blk_setCell HB.out _).trans (by simp), gb_setCell _ _⟩
set_option maxHeartbeats 2000000 in
theorem pick_byte (g p n c : Nat) (A : Option Addr) (m : Int) (w : World) (h : RdX w g A n c p) (hm : 1 ≤ m) (hm2 : m ≤ 1000000) (hpn : p < n) :
    Calls Try.prog 61 #[.pointer (some ⟨g, 0, none⟩), .int .i64 m] w (Drew w g A n c p 1 fun r => 0 ≤ r ∧ r < m) := by
  have hc := blk_cell h.blk
  have hf : ∀ o, w.frozen? ⟨g, o, none⟩ = false := fun o => by simp [World.frozen?, h.blk]
  have hp := h.lt
  have hb := h.blk
  have hn := h.bytes.le
  have HB := Lib.hid hb
  obtain ⟨b, off, rfl, hbl, hj⟩ := h.bytes.at_ (by omega)
  obtain ⟨v, hv, v0, v1⟩ := hj p hpn
  have hn0 : ((n : Int) == 0) = false := by simp; omega
  have hm0 : (m == 0) = false := by simp; omega
  clear h hb hj
  go_enter Try.func61, Try.ntmps61
  go_wp2
  go_ret
  exact ⟨_, rfl, ⟨Int.emod_nonneg _ (by omega), Int.emod_lt_of_pos _ (by omega)⟩, (blk_setCell HB.out _).trans (by simp), gb_setCell _ _⟩
theorem xor_nonneg (x y : Int) (hx : 0 ≤ x) (hx2 : x < 9223372036854775808) (hy : 0 ≤ y) (hy2 : y < 9223372036854775808) : 0 ≤ bits .xor .i64 x y := by
  obtain ⟨a, rfl⟩ := Int.eq_ofNat_of_zero_le hx
  obtain ⟨b, rfl⟩ := Int.eq_ofNat_of_zero_le hy
  have ha : a < 9223372036854775808 := by omega
  have hb : b < 9223372036854775808 := by omega
  have e : ∀ z : Nat, z < 9223372036854775808 → (BitVec.ofInt 64 (z : Int)).toNat = z := fun z hz => by
    rw [BitVec.ofInt_natCast, BitVec.toNat_ofNat]; exact Nat.mod_eq_of_lt (by omega)
  have hlt : a ^^^ b < 2 ^ 63 := Nat.xor_lt_two_pow (by omega) (by omega)
  show 0 ≤ IntKind.i64.wrap ((BitVec.ofInt 64 (a : Int) ^^^ BitVec.ofInt 64 (b : Int)).toNat : Int)
  rw [BitVec.toNat_xor, e a ha, e b hb, IntKind.wrap_i64]
  omega
set_option maxHeartbeats 4000000 in
theorem pick_mix (g p n c : Nat) (A : Option Addr) (m : Int) (w : World) (h : RdX w g A n c p) (hm : 1 ≤ m) (hm2 : m ≤ 1000000) (hpn : ¬ p < n) (h0 : 0 < n) :
    Calls Try.prog 61 #[.pointer (some ⟨g, 0, none⟩), .int .i64 m] w (Drew w g A n c p 1 fun r => 0 ≤ r ∧ r < m) := by
  have hc := blk_cell h.blk
  have hf : ∀ o, w.frozen? ⟨g, o, none⟩ = false := fun o => by simp [World.frozen?, h.blk]
  have hp := h.lt
  have hb := h.blk
  have hn := h.bytes.le
  have HB := Lib.hid hb
  obtain ⟨b, off, rfl, hbl, hj⟩ := h.bytes.at_ h0
  have hnz : (0 : Int) < n := by omega
  have i1 : (0 : Int) ≤ (p : Int) % n := Int.emod_nonneg _ (by omega)
  have i2 : (p : Int) % n < n := Int.emod_lt_of_pos _ hnz
  have i3 : (0 : Int) ≤ ((p : Int) * 7 + 3) % n := Int.emod_nonneg _ (by omega)
  have i4 : ((p : Int) * 7 + 3) % n < n := Int.emod_lt_of_pos _ hnz
  have q0 : (0 : Int) ≤ (p : Int) / n := Int.ediv_nonneg (by omega) (by omega)
  have q1 : (p : Int) / n ≤ 1000000000 := Int.le_trans (Int.ediv_le_self _ (by omega)) (by omega)
  obtain ⟨v, hv, v0, v1⟩ := hj (p % n) (Nat.mod_lt _ h0)
  obtain ⟨u, hu, u0, u1⟩ := hj ((p * 7 + 3) % n) (Nat.mod_lt _ h0)
  have hn0 : ((n : Int) == 0) = false := by simp; omega
  have hm0 : (m == 0) = false := by simp; omega
  clear h hb hj
  go_enter Try.func61, Try.ntmps61
  go_wp2
  go_quiet (fail)
  go_wp2
  go_ret
  have hx := xor_nonneg (v * 131 + u * 1117 + ↑p * 29 + ↑p / ↑n * 53) ((v * 131 + u * 1117 + ↑p * 29 + ↑p / ↑n * 53) / 64) (by omega) (by omega) (by omega) (by omega)
  exact ⟨_, rfl, ⟨Int.tmod_nonneg _ hx, Int.tmod_lt_of_pos _ (by omega)⟩, (blk_setCell HB.out _).trans (by simp), gb_drewN (gb_setCell _ _) _⟩
theorem Drew.mono {w w' : World} {g n c p d : Nat} {A : Option Addr} {K K' : Int → Prop} {e : Ending} (h : Drew w g A n c p d K e w') (hk : ∀ r, K r → K' r) : Drew w g A n c p d K' e w' :=
  let ⟨r, he, hr, hb, hg⟩ := h; ⟨r, he, hk r hr, hb, hg⟩
theorem pick_anyX (g p n c : Nat) (A : Option Addr) (m : Int) (w : World) (h : RdX w g A n c p) (hm : 1 ≤ m) (hm2 : m ≤ 1000000) :
    Calls Try.prog 61 #[.pointer (some ⟨g, 0, none⟩), .int .i64 m] w (Drew w g A n c p 1 fun r => 0 ≤ r ∧ r < m) := by
  by_cases h0 : n = 0
  · exact (pick_zero g p n c A m w h (.inr h0)).mono fun _ _ hd => hd.mono fun r hr => by omega
  · by_cases hp : p < n
    · exact pick_byte g p n c A m w h hm hm2 hp
    · exact pick_mix g p n c A m w h hm hm2 hp (by omega)
theorem RdX.next {w w' : World} {g n c p d : Nat} {A : Option Addr} (h : RdX w g A n c p) (hb : w'.heap[g]? = some (.cells #[.slice A n c, .int .i64 ((p + d : Nat) : Int)] 89)) (hg : w.grownBy w' (some g)) (hp : p + d < 1000000000) : RdX w' g A n c (p + d) :=
  ⟨hb, h.bytes.keep fun b hl => hg.block b (Nat.lt_trans hl (blk_lt h.blk)) (by simp; omega), hp⟩
theorem gb_cell {w w' : World} {g b o : Nat} (h : w.grownBy w' (some g)) (hb : b < w.heap.size) (hne : b ≠ g) : w'.cell? ⟨b, o, none⟩ = w.cell? ⟨b, o, none⟩ :=
  World.cell?_of_block (h.block b hb (by simp; exact hne))
theorem gb_al {a w : World} {row : Option Nat} (h : a.grownBy w row) (o : Obj) : a.grownBy (w.alloc o) row :=
  ⟨h.os, h.tape, h.output, Nat.le_trans h.size (by simp), fun i hi hne => (Below.heap_alloc w o i (Nat.lt_of_lt_of_le hi h.size)).trans (h.block i hi hne)⟩
theorem blk_grown {W w1 : World} {N g : Nat} {o : Obj} (hb : W.grownBy w1 (some g)) (hN : W.heap[N]? = some o) (hne : N ≠ g) : w1.heap[N]? = some o ∧ N < w1.heap.size :=
  ⟨(hb.block N (blk_lt hN) (by simp; exact hne)).trans hN, Nat.lt_of_lt_of_le (blk_lt hN) hb.size⟩
def Rd (w : World) (g : Nat) (A : Option Addr) (n c q : Nat) : Prop := ∃ p, p ≤ q ∧ RdX w g A n c p
theorem Rd.mono {w : World} {g n c q q' : Nat} {A : Option Addr} (h : Rd w g A n c q) (hq : q ≤ q') : Rd w g A n c q' := let ⟨p, hp, hx⟩ := h; ⟨p, by omega, hx⟩
theorem Rd.keep {w w' : World} {g n c q : Nat} {A : Option Addr} (h : Rd w g A n c q) (k : ∀ b, b ≤ g → w'.heap[b]? = w.heap[b]?) : Rd w' g A n c q :=
  let ⟨p, hp, hx⟩ := h; ⟨p, hp, (k g (Nat.le_refl _)).trans hx.blk, hx.bytes.keep fun b hb => k b (by omega), hx.lt⟩
theorem Rd.gblt {w : World} {g n c q : Nat} {A : Option Addr} (h : Rd w g A n c q) : g < w.heap.size := let ⟨_, _, hx⟩ := h; blk_lt hx.blk
theorem Rd.alloc {w : World} {g n c q : Nat} {A : Option Addr} (h : Rd w g A n c q) (o : Obj) : Rd (w.alloc o) g A n c q :=
  h.keep fun b hb => Below.heap_alloc w o b (Nat.lt_of_le_of_lt hb h.gblt)
theorem Rd.setCell {w : World} {g n c q : Nat} {A : Option Addr} (h : Rd w g A n c q) {a : Addr} (ha : g < a.block) (v : Value) : Rd (w.setCell a v) g A n c q :=
  h.keep fun b hb => Below.heap_setCell w a v b (by omega)
theorem Rd.below {w w' : World} {g n c q : Nat} {A : Option Addr} (h : Rd w g A n c q) (hb : Below w.heap.size w w') : Rd w' g A n c q :=
  h.keep fun b hl => hb.block b (Nat.lt_of_le_of_lt hl h.gblt)
theorem gb_set {a w : World} {row : Option Nat} (h : a.grownBy w row) {p : Addr} (hp : a.heap.size ≤ p.block) (v : Value) : a.grownBy (w.setCell p v) row :=
  ⟨h.os, h.tape, h.output, by simpa [World.setCell] using h.size, fun i hi hne => (Below.heap_setCell w p v i (by omega)).trans (h.block i hi hne)⟩
theorem blk_frozen {w : World} {N : Nat} {cs : Array Value} {T : TypeId} (h : w.heap[N]? = some (.cells cs T)) (o : Nat) : w.frozen? ⟨N, o, none⟩ = false := by simp [World.frozen?, h]
def Got (w : World) (g : Nat) (A : Option Addr) (n c q : Nat) (K : Int → Prop) (e : Ending) (w' : World) : Prop :=
  ∃ r : Int, e = .returned (.int .i64 r) ∧ K r ∧ Rd w' g A n c q ∧ w.grownBy w' (some g)
theorem got_of {w w' : World} {g n c p q : Nat} {A : Option Addr} {K : Int → Prop} {e : Ending} (hx : RdX w g A n c p) (hp : p ≤ q) (hq : q + 1 < 1000000000) (h : Drew w g A n c p 1 K e w') : Got w g A n c (q + 1) K e w' := by
  obtain ⟨r, he, hr, hb, hg⟩ := h
  exact ⟨r, he, hr, ⟨p + 1, by omega, hx.next hb hg (by omega)⟩, hg⟩
theorem pick_any (g q n c : Nat) (A : Option Addr) (m : Int) (w : World) (h : Rd w g A n c q) (hq : q + 1 < 1000000000) (hm : 1 ≤ m) (hm2 : m ≤ 1000000) :
    Calls Try.prog 61 #[.pointer (some ⟨g, 0, none⟩), .int .i64 m] w (Got w g A n c (q + 1) fun r => 0 ≤ r ∧ r < m) := by
  obtain ⟨p, hp, hx⟩ := h
  exact (pick_anyX g p n c A m w hx hm hm2).mono fun _ _ hd => got_of hx hp hq hd
set_option maxHeartbeats 2000000 in
theorem num_any (g q n c l lo k kc : Nat) (A : Option Addr) (w : World) (h : Rd w g A n c q) (hq : q + 1 < 1000000000) (hk : 0 < k) (hk2 : k ≤ 1000000) (hl : l < w.heap.size) (hlg : l ≠ g)
    (hc : ∀ j, j < k → ∃ v : Int, w.cell? ⟨l, lo + j, none⟩ = some (.int .i64 v)) :
    Calls Try.prog 51 #[.pointer (some ⟨g, 0, none⟩), .slice (some ⟨l, lo, none⟩) k kc] w (Got w g A n c (q + 1) fun _ => True) := by
  have H := Lib.hid hc
  clear hc
  go_enter Try.func51, Try.ntmps51
  go_wp2_with fail
  refine (pick_any g q n c A _ _ h hq (by omega) (by omega)).mono ?_
  rintro e w1 ⟨r, rfl, ⟨r0, r1⟩, hr, hg⟩
  obtain ⟨v, hv⟩ := H.out r.toNat (by omega)
  have hv1 := (gb_cell hg hl hlg).trans hv
  clear hv
  go_wp2
  go_ret
  exact ⟨v, rfl, trivial, hr, hg⟩
theorem cells_of_blk {w : World} {l : Nat} {cs : Array Value} {T : TypeId} {fz : Nat × Nat} (h : w.heap[l]? = some (.cells cs T fz)) (k : Nat) (hk : ∀ j, j < k → ∃ v : Int, cs[j]? = some (.int .i64 v)) :
    ∀ j, j < k → ∃ v : Int, w.cell? ⟨l, 0 + j, none⟩ = some (.int .i64 v) := fun j hj => by
  obtain ⟨v, hv⟩ := hk j hj
  exact ⟨v, by rw [Nat.zero_add, blk_cell h, hv]⟩
end Go.Proofs.Ytjcpjijihajopaa
namespace Go.Proofs.Ytjcpjijihajopaa
open Go.RowKit
set_option linter.unusedVariables false
structure Code (w : World) (A : Option Addr) (n c : Nat) : Prop where
  le : n ≤ c
  cap : c ≤ maxLen
  at_ : 0 < n → ∃ b off, A = some ⟨b, off, none⟩ ∧ b < w.heap.size ∧ ∀ j, j < n → ∃ v : Int, w.cell? ⟨b, off + j, none⟩ = some (.int .u8 v) ∧ 0 ≤ v ∧ v ≤ 255
def Opened (w : World) (e : Ending) (w' : World) : Prop := ∃ g A n c, e = .returned (.pointer (some ⟨g, 0, none⟩)) ∧ Rd w' g A n c 0 ∧ Below w.heap.size w w' ∧ w.heap.size ≤ g
theorem bytes_alloc {w : World} {A : Option Addr} {n c m : Nat} (h : Code w A n c) (hm : m ≤ n) (hm2 : m ≤ 2000) (o : Obj) : Bytes (w.alloc o) w.heap.size A m :=
  ⟨hm2, fun h0 => by
    obtain ⟨b, off, e, hb, hj⟩ := h.at_ (by omega)
    refine ⟨b, off, e, hb, fun j hjm => ?_⟩
    obtain ⟨v, hv, h1⟩ := hj j (by omega)
    exact ⟨v, (World.cell?_alloc_lt w o _ hb).trans hv, h1⟩⟩
set_option maxHeartbeats 2000000 in
theorem open_any (A : Option Addr) (n c : Nat) (w : World) (h : Code w A n c) : Calls Try.prog 49 #[.slice A n c] w (Opened w) := by
  have hl := h.le
  have hcm := h.cap
  unfold maxLen at hcm
  by_cases hn : 2000 < n
  · obtain ⟨b, off, rfl, hb, hj⟩ := h.at_ (by omega)
    clear hj
    go_enter Try.func49, Try.ntmps49
    go_wp2
    go_ret
    exact ⟨_, _, 2000, c, rfl, ⟨0, by omega, heap_alloc_new _ _, bytes_alloc h (by omega) (by omega) _, by omega⟩, below_al (Below.refl _ _) _, Nat.le_refl _⟩
  · go_enter Try.func49, Try.ntmps49
    go_wp2
    go_ret
    exact ⟨_, A, n, c, rfl, ⟨0, by omega, heap_alloc_new _ _, bytes_alloc h (by omega) (by omega) _, by omega⟩, below_al (Below.refl _ _) _, Nat.le_refl _⟩
end Go.Proofs.Ytjcpjijihajopaa
namespace Go.Proofs.Ytjcpjijihajopaa
open Go.Joins Go.ChangeShapes Go.WideShapes Go.RowKit Go.Deep
section
variable {H : Type} {enc : TypeId × Value → H} {P : Program} {w : World} {base : Nat} {held : Bool}
theorem read_bytes {t e : TypeId} {A : Option Addr} {len cap : Nat} {d : DataW H} {p : List MemPlace} (ht : P.underlying t = some (.slice e)) (he : P.underlying e = some (.int .u8)) (hc : P.cellsOf e = 1)
    (h : DataW.Trod enc P w base (fun _ => true) held t (.slice A len cap) d p) : Code w A len cap := by
  obtain ⟨fuel, hf⟩ := h
  rcases open_ints ht he hc hf with ⟨hcs, _⟩ | ⟨a, len', cap', zs, hcs, _, hl, hm, hz, _, hcell, hwz⟩
  · simp [Value.cells] at hcs
    obtain ⟨rfl, rfl, rfl⟩ := hcs
    exact ⟨Nat.le_refl _, Nat.zero_le _, fun h0 => absurd h0 (by omega)⟩
  · simp [Value.cells] at hcs
    obtain ⟨rfl, rfl, rfl⟩ := hcs
    simp only [if_true] at hz
    refine ⟨hl, hm, fun h0 => ?_⟩
    obtain ⟨b, off, spot⟩ := a
    have h1 := hcell 0 (by omega)
    have hspot : spot = none := by simpa [Addr.add] using World.cell?_spot h1
    subst hspot
    have hb : b < w.heap.size := by have := World.block_lt_of_cell? w _ h1; rw [add_plain] at this; exact this
    refine ⟨b, off, rfl, hb, fun j hj => ?_⟩
    have h2 := hcell j (by omega)
    rw [add_plain] at h2
    have h3 := range_u8 hwz j
    rw [← List.getD_eq_getElem?_getD] at h3
    exact ⟨_, h2, h3.1, h3.2⟩
end
end Go.Proofs.Ytjcpjijihajopaa
