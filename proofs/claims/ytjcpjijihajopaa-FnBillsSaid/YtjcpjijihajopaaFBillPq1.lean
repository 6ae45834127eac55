/-
 Part 1 of what stands behind the last text.
-/
import Derived.Test.YtjcpjijihajopaaRows
import Derived.ProofKit
import Derived.OpenShut
import Derived.ShutString
import Derived.ChangeOld
import Derived.Below
import Derived.Lib.SmallJoins
import Derived.Deep.Fields
import Derived.WalkKit
import Derived.WalkSpells
import Derived.WalkLawsBesides
import Derived.Lib.Hide
import Derived.Deep.Draws
import Derived.Deep.QuietTactic
import Derived.BigQuiet
import Derived.Laws.MakeOwn
import Derived.Deep.OwnRows
import Derived.Laws.OwnMore
import Derived.Deep.AppendLies
import Derived.Deep.AppendSrc
import Derived.Deep.RegionLaw
import Derived.OwnWalk
import Derived.Lib.ItoaNum
import Derived.Lib.ItoaLen
import Derived.Deep.RegionHeld3
import Derived.Laws.StructEq
import Derived.Deep.Matrix
import Derived.Laws.BitsAllLaws
import Derived.Laws.BitsLemmas
import Derived.Laws.AppendOwn
import Derived.Deep.RegionWith
set_option linter.unusedSectionVars false
set_option linter.unusedSimpArgs false
set_option linter.unusedVariables false
namespace Go.Proofs.Ytjcpjijihajopaa
open Go.Joins Go.ChangeShapes Go.WideShapes Go.RowKit Go.Deep
theorem own : ownKnob Try.prog.godebug = none := by kernel_rfl
theorem laidOut : laidOutB Try.prog = true := by kernel_rfl
end Go.Proofs.Ytjcpjijihajopaa
namespace Go.Proofs.Ytjcpjijihajopaa
open Go.RowKit
def inB (n lo hi : Int) : Bool := decide (lo <= n /\ n <= hi)
theorem ret_bool {a b : Bool} (h : a = b) : Ending.returned (.bool a) = .returned (.bool b) := by rw [h]
theorem ret_int {k : IntKind} {a b : Int} (h : a = b) : Ending.returned (.int k a) = .returned (.int k b) := by rw [h]
theorem blk_lt {W : World} {N : Nat} {o : Obj} (hN : W.heap[N]? = some o) : N < W.heap.size := by
 rcases Nat.lt_or_ge N W.heap.size with h | h
 . exact h
 . rw [Array.getElem?_eq_none h] at hN; cases hN
theorem blk_below {W w1 : World} {N : Nat} {o : Obj} (hb : Below W.heap.size W w1) (hN : W.heap[N]? = some o) : w1.heap[N]? = some o /\ N < w1.heap.size :=
 ⟨(hb.block N (blk_lt hN)).trans hN, Nat.lt_of_lt_of_le (blk_lt hN) hb.size⟩
theorem blk_alloc {W : World} {N : Nat} {o : Obj} (hN : W.heap[N]? = some o) (o' : Obj) : (W.alloc o').heap[N]? = some o := (Below.heap_alloc W o' N (blk_lt hN)).trans hN
theorem below_step {w W w1 : World} (h : Below w.heap.size w W) (hb : Below W.heap.size W w1) : Below w.heap.size w w1 := h.trans (hb.mono h.size)
theorem below_al {w W : World} (h : Below w.heap.size w W) (o : Obj) : Below w.heap.size w (W.alloc o) := h.alloc h.size o
theorem blk_cell {w : World} {N : Nat} {cs : Array Value} {T : TypeId} {fz : Nat × Nat} (h : w.heap[N]? = some (.cells cs T fz)) (o : Nat) : w.cell? ⟨N, o, none⟩ = cs[o]? := cell_of_row w N o cs T fz h
set_option maxHeartbeats 400000 in
theorem l1In_any (n lo hi : Int) (w : World) :
   Calls Try.prog 31 #[.int .i64 n, .int .i64 lo, .int .i64 hi] w λ e w' => e = .returned (.bool (inB n lo hi)) /\ w' = w := by
 go_enter Try.func31, Try.ntmps31
 go_wp2
 all_goals go_ret
 all_goals exact ⟨ret_bool (by simp [inB]; omega), rfl⟩
end Go.Proofs.Ytjcpjijihajopaa
namespace Go.Proofs.Ytjcpjijihajopaa
open Go.RowKit
structure Slc (w : World) (lo hi s : Nat) (A : Option Addr) (n c : Nat) (xs : List Value) : Prop where
 len : xs.length = n * s
 le : n <= c
 cap : c <= maxLen
 at_ : 0 < n -> ∃ b off, A = some ⟨b, off, none⟩ /\ lo <= b /\ b < hi /\ b < w.heap.size /\ ∀ j v, xs[j]? = some v -> w.cell? ⟨b, off + j, none⟩ = some v
theorem Slc.keep {w w' : World} {lo hi s n c : Nat} {A : Option Addr} {xs : List Value} (h : Slc w lo hi s A n c xs) (hs : w.heap.size <= w'.heap.size) (k : ∀ b, lo <= b -> b < hi -> b < w.heap.size -> w'.heap[b]? = w.heap[b]?) : Slc w' lo hi s A n c xs :=
 ⟨h.len, h.le, h.cap, λ hn => by
   obtain ⟨b, off, e, h1, h2, h3, h4⟩ := h.at_ hn
   exact ⟨b, off, e, h1, h2, Nat.lt_of_lt_of_le h3 hs, λ j v hv => (World.cell?_of_block (k b h1 h2 h3)).trans (h4 j v hv)⟩⟩
theorem Slc.below {w w' : World} {lo hi s n c : Nat} {A : Option Addr} {xs : List Value} (h : Slc w lo hi s A n c xs) (hb : Below w.heap.size w w') : Slc w' lo hi s A n c xs :=
 h.keep hb.size λ b _ _ h3 => hb.block b h3
theorem Slc.alloc {w : World} {lo hi s n c : Nat} {A : Option Addr} {xs : List Value} (h : Slc w lo hi s A n c xs) (o : Obj) : Slc (w.alloc o) lo hi s A n c xs :=
 h.keep (by simp) λ b _ _ h3 => Below.heap_alloc w o b h3
theorem Slc.wide {w : World} {lo hi lo' hi' s n c : Nat} {A : Option Addr} {xs : List Value} (h : Slc w lo hi s A n c xs) (h1 : lo' <= lo) (h2 : hi <= hi') : Slc w lo' hi' s A n c xs :=
 ⟨h.len, h.le, h.cap, λ hn => by obtain ⟨b, off, e, k1, k2, k3, k4⟩ := h.at_ hn; exact ⟨b, off, e, by omega, by omega, k3, k4⟩⟩
def ints (xs : List Int) : List Value := xs.map (Value.int .i64)
theorem ints_get {xs : List Int} {k : Nat} (h : k < xs.length) : (ints xs)[k]? = some (.int .i64 xs[k]) := by simp [ints, h]
theorem Slc.cellAt {w : World} {lo hi n c : Nat} {A : Option Addr} {xs : List Int} (h : Slc w lo hi 1 A n c (ints xs)) {k : Nat} (hk : k < n) : ∃ b off v, A = some ⟨b, off, none⟩ /\ lo <= b /\ b < hi /\ b < w.heap.size /\ xs[k]? = some v /\ w.cell? ⟨b, off + k, none⟩ = some (.int .i64 v) := by
 obtain ⟨b, off, e, h1, h2, h3, h4⟩ := h.at_ (by omega)
 have hl : k < xs.length := by have := h.len; simp [ints] at this; omega
 exact ⟨b, off, xs[k], e, h1, h2, h3, List.getElem?_eq_getElem hl, h4 k _ (ints_get hl)⟩
theorem blk_frozen' {w : World} {N : Nat} {cs : Array Value} {T : TypeId} (h : w.heap[N]? = some (.cells cs T)) (o : Nat) : w.frozen? ⟨N, o, none⟩ = false := by simp [World.frozen?, h]
theorem blk_setCell {w : World} {g i : Nat} {cs : Array Value} {T : TypeId} {fz : Nat × Nat} (h : w.heap[g]? = some (.cells cs T fz)) (v : Value) : (w.setCell ⟨g, i, none⟩ v).heap[g]? = some (.cells (cs.setIfInBounds i v) T fz) := by
 simp [World.setCell, Array.getElem?_modify, h]
structure Chg (lo hi : Nat) (w w' : World) : Prop where
 os : w'.os = w.os
 tape : w'.tape = w.tape
 output : w'.output = w.output
 size : w.heap.size <= w'.heap.size
 block : ∀ i, i < w.heap.size -> ¬ (lo <= i /\ i < hi) -> w'.heap[i]? = w.heap[i]?
theorem Chg.refl (lo hi : Nat) (w : World) : Chg lo hi w w := ⟨rfl, rfl, rfl, Nat.le_refl _, λ _ _ _ => rfl⟩
theorem Chg.setCell {lo hi : Nat} {a b : World} (h : Chg lo hi a b) {p : Addr} (h1 : lo <= p.block) (h2 : p.block < hi) (v : Value) : Chg lo hi a (b.setCell p v) :=
 ⟨h.os, h.tape, h.output, by simpa [World.setCell] using h.size, λ i hi hne => (Below.heap_setCell b p v i (by omega)).trans (h.block i hi hne)⟩
structure Own (w : World) (lo hi : Nat) (A : Option Addr) (n c : Nat) (xs : List Int) : Prop where
 slc : Slc w lo hi 1 A n c (ints xs)
 blk : 0 < n -> ∃ b cs, A = some ⟨b, 0, none⟩ /\ w.heap[b]? = some (.cells cs 3) /\ n <= cs.size
end Go.Proofs.Ytjcpjijihajopaa
namespace Go.Proofs.Ytjcpjijihajopaa
open Go.RowKit
structure OwnV (E s : Nat) (w : World) (lo hi : Nat) (A : Option Addr) (n c : Nat) (xs : List Value) : Prop where
 slc : Slc w lo hi s A n c xs
 blk : 0 < n -> ∃ b cs, A = some ⟨b, 0, none⟩ /\ w.heap[b]? = some (.cells cs E) /\ n * s <= cs.size
section
variable {E s : Nat} {w w' : World} {lo hi n c : Nat} {A : Option Addr} {xs : List Value}
theorem OwnV.keep (h : OwnV E s w lo hi A n c xs) (hs : w.heap.size <= w'.heap.size) (k : ∀ b, lo <= b -> b < hi -> b < w.heap.size -> w'.heap[b]? = w.heap[b]?) : OwnV E s w' lo hi A n c xs :=
 ⟨h.slc.keep hs k, λ hn => by
   obtain ⟨b, cs, e, hb, hc⟩ := h.blk hn
   obtain ⟨b', off, e', h1, h2, h3, _⟩ := h.slc.at_ hn
   rw [e] at e'; injection e' with e'; injection e' with e1 e2 e3; subst e1
   exact ⟨b, cs, e, (k b h1 h2 h3).trans hb, hc⟩⟩
theorem OwnV.wide {lo' hi' : Nat} (h : OwnV E s w lo hi A n c xs) (h1 : lo' <= lo) (h2 : hi <= hi') : OwnV E s w lo' hi' A n c xs := ⟨h.slc.wide h1 h2, h.blk⟩
theorem OwnV.nil (w : World) (lo hi : Nat) : OwnV E s w lo hi none 0 0 [] := ⟨⟨by simp, Nat.le_refl _, Nat.zero_le _, λ h => absurd h (by omega)⟩, λ h => absurd h (by omega)⟩
theorem OwnV.empty (w : World) (lo hi : Nat) (A : Option Addr) : OwnV E s w lo hi A 0 0 [] := ⟨⟨by simp, Nat.le_refl _, Nat.zero_le _, λ h => absurd h (by omega)⟩, λ h => absurd h (by omega)⟩
theorem ownV_of_row {base : Nat} {v : Value} (h : w.ownsRow base E s v n xs) (hs : 0 < s) : ∃ A c, v = .slice A n c /\ OwnV E s w base w.heap.size A n c xs := by
 obtain ⟨hl, h | ⟨g, cap, cur, rfl, hb, hg, hn, hc, hsz, ht⟩⟩ := h
 . obtain ⟨rfl, rfl⟩ := h
   exact ⟨none, 0, rfl, ⟨⟨hl, Nat.le_refl _, Nat.zero_le _, λ h => absurd h (by omega)⟩, λ h => absurd h (by omega)⟩⟩
 . refine ⟨_, cap, rfl, ⟨⟨hl, hn, hc, λ h0 => ⟨g, 0, rfl, hb, blk_lt hg, blk_lt hg, λ j v hv => ?_⟩⟩, λ h0 => ⟨g, cur, rfl, hg, by rw [hsz]; exact Nat.mul_le_mul_right _ hn⟩⟩⟩
   rw [Nat.zero_add, blk_cell hg]
   rw [<- ht] at hv
   have hj : j < n * s := by
     rcases Nat.lt_or_ge j (n * s) with h | h
     . exact h
     . rw [List.getElem?_eq_none (by rw [List.length_take]; omega)] at hv; cases hv
   rw [List.getElem?_take_of_lt hj] at hv
   simpa using hv
def NewVB (E s : Nat) (w : World) (xs : List Value) (t : Bool) (e : Ending) (w' : World) : Prop :=
 ∃ A n c, e = .returned (.tuple #[.slice A n c, .bool t]) /\ OwnV E s w' w.heap.size w'.heap.size A n c xs /\ Below w.heap.size w w'
theorem Slc.cells (h : Slc w lo hi s A n c xs) {k : Nat} (hk : k < n) : ∃ b off, A = some ⟨b, off, none⟩ /\ lo <= b /\ b < hi /\ b < w.heap.size /\ ∀ f v, xs[k * s + f]? = some v -> w.cell? ⟨b, off + (k * s + f), none⟩ = some v := by
 obtain ⟨b, off, e, h1, h2, h3, h4⟩ := h.at_ (by omega)
 exact ⟨b, off, e, h1, h2, h3, λ f v hv => h4 _ v hv⟩
end
theorem flat_get {α : Type} (f : α -> List Value) {s : Nat} (hf : ∀ a, (f a).length = s) : ∀ (l : List α) (k i : Nat), i < s -> (l.flatMap f)[k * s + i]? = (l[k]?).bind λ a => (f a)[i]?
 | [], k, i, _ => by simp
 | a :: l, 0, i, hi => by
   rw [List.flatMap_cons, Nat.zero_mul, Nat.zero_add, List.getElem?_append_left (by rw [hf]; exact hi)]; rfl
 | a :: l, k + 1, i, hi => by
   rw [List.flatMap_cons, List.getElem?_append_right (by rw [hf, Nat.succ_mul]; omega), hf, show (k + 1) * s + i - s = k * s + i by rw [Nat.succ_mul]; omega, flat_get f hf l k i hi]; rfl
theorem flat_len {α : Type} (f : α -> List Value) {s : Nat} (hf : ∀ a, (f a).length = s) (l : List α) : (l.flatMap f).length = l.length * s := by
 induction l with
 | nil => simp
 | cons a l ih => rw [List.flatMap_cons, List.length_append, ih, hf, List.length_cons, Nat.succ_mul]; omega
end Go.Proofs.Ytjcpjijihajopaa
namespace Go.Proofs.Ytjcpjijihajopaa
open Go.RowKit
theorem row_below {E s : Nat} {W W' : World} {base n : Nat} {v : Value} {xs : List Value} {w0 : World} (h : w0.ownsRow base E s v n xs) (g : W.grownBy W' v.ownBlock) (hb : base <= W.heap.size) : Below base W W' :=
 ⟨g.os, g.tape, g.output, g.size, λ i hi => g.block i (by omega) (by
   obtain ⟨_, h | ⟨b, cap, cur, rfl, h1, _⟩⟩ := h
   . rw [h.1]; simp [Value.ownBlock]
   . simp [Value.ownBlock]; omega)⟩
theorem row_some {E s : Nat} {w : World} {base n : Nat} {v : Value} {xs : List Value} (h : w.ownsRow base E s v n xs) (hv : ¬ v = .slice none 0 0) : ∃ g c, v = .slice (some ⟨g, 0, none⟩) n c := by
 obtain ⟨_, h | ⟨b, cap, cur, rfl, h1, _⟩⟩ := h
 . exact absurd h.1 hv
 . exact ⟨b, cap, rfl⟩
theorem row_empty {E s : Nat} {w : World} {base g : Nat} (hb : base <= g) (hg : w.heap[g]? = some (.cells #[] E)) : w.ownsRow base E s (.slice (some ⟨g, 0, none⟩) 0 0) 0 [] :=
 ⟨by simp, .inr ⟨g, 0, #[], rfl, hb, hg, Nat.le_refl _, Nat.zero_le _, by simp, by simp⟩⟩
theorem row_keep {E s : Nat} {w w' : World} {base n : Nat} {v : Value} {xs : List Value} (h : w.ownsRow base E s v n xs) (hb : ∀ b, b < w.heap.size -> w'.heap[b]? = w.heap[b]?) : w'.ownsRow base E s v n xs := by
 obtain ⟨hl, h | ⟨g, cap, cur, rfl, h1, hg, h2⟩⟩ := h
 . exact ⟨hl, .inl h⟩
 . exact ⟨hl, .inr ⟨g, cap, cur, rfl, h1, (hb g (blk_lt hg)).trans hg, h2⟩⟩
theorem row_below' {E s : Nat} {w w' : World} {base n : Nat} {v : Value} {xs : List Value} (h : w.ownsRow base E s v n xs) (hb : Below w.heap.size w w') : w'.ownsRow base E s v n xs := row_keep h λ b h => hb.block b h
theorem blk_drew {w : World} {N : Nat} {o : Obj} (h : w.heap[N]? = some o) : w.drew.heap[N]? = some o := h
theorem below_drew {a w : World} {B : Nat} (h : Below B a w) : Below B a w.drew := ⟨h.os, h.tape, h.output, h.size, h.block⟩
theorem heap_new' (w : World) (o : Obj) {b : Nat} (hb : b = w.heap.size) : (w.alloc o).heap[b]? = some o := by subst hb; exact heap_alloc_new w o
section
variable {P : Program} (w : World)
theorem run_app (t ty : TypeId) (base : Nat) (e : TypeId) (i : TypeInfo) (z : Value) (size bytes : Nat) (ht : P.underlying t = some (.slice e)) (hi : P.info? e = some i) (hz : i.zero = some z)
   (hsize : i.size = size) (hby : i.bytes = bytes) (hzs : z.cells.size = size) (hsz : 0 < size)
   (v : Value) (n : Nat) (xs : List Value) (hown : w.ownsRow base e size v n xs) (hv : ¬ v = .slice none 0 0)
   (ad : Addr) (m c : Nat) (news : List Value) (hl : news.length = m * size) (hnews : ∀ j u, news[j]? = some u -> w.cell? (ad.add j) = some u) (h1 : ∀ u ∈ news, u.oneCell' = true)
   (h63 : n + m <= maxLen) (hbytes : (n + m) * bytes <= 140737488355328) (hbase : base <= w.heap.size) :
   ∃ g cap w', (Builtin.append_ #[t, t] ty #[v, .slice (some ad) m c]).run P w = .ok (.slice (some ⟨g, 0, none⟩) (n + m) cap) w' /\
     w'.ownsRow base e size (.slice (some ⟨g, 0, none⟩) (n + m) cap) (n + m) (xs ++ news) /\ w.grownBy w' v.ownBlock /\ Below base w w' := by
 obtain ⟨v', w', hr, h2, h3, h4, h5⟩ := run_append_own_at (P := P) w base t ty e i z size bytes ht hi hz hsize hby hzs hsz v n xs hown ad m c news hl hnews h1 h63 hbytes hbase
 obtain ⟨g, cap, rfl⟩ := row_some h2 (λ h => hv (h4.1 h).1)
 exact ⟨g, cap, w', hr, h2, h3, row_below hown h3 hbase⟩
theorem wp_app {o : Oper} {a : Act} {K : Act -> World -> Prop} {Q : Exit -> Act -> World -> Prop} (s x : Operand) (t : TypeId)
   (ho : o.op = .call { callee := .builtin .append, args := #[s, x], argTypes := #[t, t] })
   (base : Nat) (e : TypeId) (i : TypeInfo) (z : Value) (size bytes : Nat) (ht : P.underlying t = some (.slice e)) (hi : P.info? e = some i) (hz : i.zero = some z)
   (hsize : i.size = size) (hby : i.bytes = bytes) (hzs : z.cells.size = size) (hsz : 0 < size)
   (v : Value) (n : Nat) (xs : List Value) (hs : a.eval s = v) (hown : w.ownsRow base e size v n xs) (hv : ¬ v = .slice none 0 0)
   (ad : Addr) (m c : Nat) (news : List Value) (hx : a.eval x = .slice (some ad) m c) (hl : news.length = m * size) (hnews : ∀ j u, news[j]? = some u -> w.cell? (ad.add j) = some u) (h1 : ∀ u ∈ news, u.oneCell' = true)
   (h63 : n + m <= maxLen) (hbytes : (n + m) * bytes <= 140737488355328) (hbase : base <= w.heap.size)
   (h : ∀ g cap w', w'.ownsRow base e size (.slice (some ⟨g, 0, none⟩) (n + m) cap) (n + m) (xs ++ news) -> w.grownBy w' v.ownBlock -> Below base w w' -> K (a.put o.dst (.slice (some ⟨g, 0, none⟩) (n + m) cap)) w') : o.wp P a w K Q := by
 obtain ⟨g, cap, w', hr, h2, h3, h4⟩ := run_app (P := P) w t o.type base e i z size bytes ht hi hz hsize hby hzs hsz v n xs hown hv ad m c news hl hnews h1 h63 hbytes hbase
 unfold Oper.wp execOp
 simp only [ho, resolve, invoke, builtin, Sem.run_bind, Sem.run_pure, Result.andThen_ok, List.map_toArray, List.map_cons, List.map_nil, hs, hx, hr]
 exact h g cap w' h2 h3 h4
theorem wpList_app {ops : Array Oper} {rest : List Oper} {o : Oper} {a : Act} {Q : Exit -> Act -> World -> Prop} (hgd : o.guard = none) (s x : Operand) (t : TypeId)
   (ho : o.op = .call { callee := .builtin .append, args := #[s, x], argTypes := #[t, t] })
   (base : Nat) (e : TypeId) (i : TypeInfo) (z : Value) (size bytes : Nat) (ht : P.underlying t = some (.slice e)) (hi : P.info? e = some i) (hz : i.zero = some z)
   (hsize : i.size = size) (hby : i.bytes = bytes) (hzs : z.cells.size = size) (hsz : 0 < size)
   (v : Value) (n : Nat) (xs : List Value) (hs : a.eval s = v) (hown : w.ownsRow base e size v n xs) (hv : ¬ v = .slice none 0 0)
   (ad : Addr) (m c : Nat) (news : List Value) (hx : a.eval x = .slice (some ad) m c) (hl : news.length = m * size) (hnews : ∀ j u, news[j]? = some u -> w.cell? (ad.add j) = some u) (h1 : ∀ u ∈ news, u.oneCell' = true)
   (h63 : n + m <= maxLen) (hbytes : (n + m) * bytes <= 140737488355328) (hbase : base <= w.heap.size)
   (h : ∀ g cap w', w'.ownsRow base e size (.slice (some ⟨g, 0, none⟩) (n + m) cap) (n + m) (xs ++ news) -> w.grownBy w' v.ownBlock -> Below base w w' -> wpList P ops Q rest (a.put o.dst (.slice (some ⟨g, 0, none⟩) (n + m) cap)) w') : wpList P ops Q (o :: rest) a w :=
 wpList_plain hgd λ _ hK => wp_app w s x t ho base e i z size bytes ht hi hz hsize hby hzs hsz v n xs hs hown hv ad m c news hx hl hnews h1 h63 hbytes hbase λ g cap w' h2 h3 h4 => hK _ _ (h g cap w' h2 h3 h4)
theorem step_app {ops : Array Oper} {o : Oper} {a : Act} {K : Act -> World -> Prop} {Q : Exit -> Act -> World -> Prop} {EE : Prop} (hgd : o.guard = none) (s x : Operand) (t : TypeId)
   (ho : o.op = .call { callee := .builtin .append, args := #[s, x], argTypes := #[t, t] })
   (base : Nat) (e : TypeId) (i : TypeInfo) (z : Value) (size bytes : Nat) (ht : P.underlying t = some (.slice e)) (hi : P.info? e = some i) (hz : i.zero = some z)
   (hsize : i.size = size) (hby : i.bytes = bytes) (hzs : z.cells.size = size) (hsz : 0 < size)
   (v : Value) (n : Nat) (xs : List Value) (hs : a.eval s = v) (hown : w.ownsRow base e size v n xs) (hv : ¬ v = .slice none 0 0)
   (ad : Addr) (m c : Nat) (news : List Value) (hx : a.eval x = .slice (some ad) m c) (hl : news.length = m * size) (hnews : ∀ j u, news[j]? = some u -> w.cell? (ad.add j) = some u) (h1 : ∀ u ∈ news, u.oneCell' = true)
   (h63 : n + m <= maxLen) (hbytes : (n + m) * bytes <= 140737488355328) (hbase : base <= w.heap.size)
   (h : ∀ g cap w', w'.ownsRow base e size (.slice (some ⟨g, 0, none⟩) (n + m) cap) (n + m) (xs ++ news) -> w.grownBy w' v.ownBlock -> Below base w w' -> K (a.put o.dst (.slice (some ⟨g, 0, none⟩) (n + m) cap)) w') :
   if Region.wanted o (yielded ops a.tmps) = true then Oper.wp P o a w K Q else EE := by
 have hw : Region.wanted o (yielded ops a.tmps) = true := by simp [Region.wanted, hgd]
 rw [if_pos hw]
 exact wp_app w s x t ho base e i z size bytes ht hi hz hsize hby hzs hsz v n xs hs hown hv ad m c news hx hl hnews h1 h63 hbytes hbase h
end
theorem row_slc {E s : Nat} {w : World} {base n c : Nat} {A : Option Addr} {xs : List Value} (h : w.ownsRow base E s (.slice A n c) n xs) (hs : 0 < s) : Slc w base w.heap.size s A n c xs := by
 obtain ⟨A', c', e, o⟩ := ownV_of_row h hs
 injection e with e1 e2 e3; subst e1 e3; exact o.slc
end Go.Proofs.Ytjcpjijihajopaa
namespace Go.Proofs.Ytjcpjijihajopaa
open Go.RowKit
end Go.Proofs.Ytjcpjijihajopaa
namespace Go.Proofs.Ytjcpjijihajopaa
open Go.RowKit
theorem bytes_app (a b : Array UInt8) : (⟨a⟩ : ByteArray) ++ ⟨b⟩ = ⟨a ++ b⟩ := by
 apply ByteArray.ext; simp [ByteArray.data_append]
theorem dec_len {k : Nat} (hk : k <= 100000000) : (Lib.decDigits k).length <= 20 := by
 rw [Lib.decDigits_length]; exact Lib.nDigits_le20 k (by omega)
theorem cv1 (w : World) (x : Nat) (hx : x <= 255) : (convert 41 9 (.slice (some ⟨w.heap.size, 0, none⟩) 1 1)).run Try.prog (w.alloc (.cells #[.int .u8 (x : Int)] 5)) = .ok (.string ⟨[UInt8.ofNat x].toArray⟩) (w.alloc (.cells #[.int .u8 (x : Int)] 5)) :=
 run_convert_bytes_back (P := Try.prog) _ 41 9 5 ⟨w.heap.size, 0, none⟩ 1 [UInt8.ofNat x] Try.underlying41 Try.underlying5 Try.underlying9 (λ j hj => by
   obtain rfl : j = 0 := by simp at hj; omega
   simp [Addr.add]
   omega)
end Go.Proofs.Ytjcpjijihajopaa
namespace Go.Proofs.Ytjcpjijihajopaa
open Go.RowKit
structure RecD where
 c : Int
 l : Int
 o : Int
 f : Int
 h : Int
 t : Int
 e : ByteArray
 deriving DecidableEq
def RecD.cells (d : RecD) : List Value := [.int .i64 d.c, .int .i64 d.l, .int .i64 d.o, .int .i64 d.f, .int .i64 d.h, .int .i64 d.t, .string d.e]
def RecD.val (d : RecD) : Value := .agg #[.int .i64 d.c, .int .i64 d.l, .int .i64 d.o, .int .i64 d.f, .int .i64 d.h, .int .i64 d.t, .string d.e]
def recs (ds : List RecD) : List Value := ds.flatMap RecD.cells
theorem recs_len (ds : List RecD) : (recs ds).length = ds.length * 7 := flat_len RecD.cells (s := 7) (λ _ => rfl) ds
theorem recs_get {ds : List RecD} {k : Nat} {d : RecD} (h : ds[k]? = some d) : (recs ds)[k * 7 + 0]? = some (.int .i64 d.c) /\ (recs ds)[k * 7 + 1]? = some (.int .i64 d.l) /\ (recs ds)[k * 7 + 2]? = some (.int .i64 d.o) /\ (recs ds)[k * 7 + 3]? = some (.int .i64 d.f) /\ (recs ds)[k * 7 + 4]? = some (.int .i64 d.h) /\ (recs ds)[k * 7 + 5]? = some (.int .i64 d.t) /\ (recs ds)[k * 7 + 6]? = some (.string d.e) := by
 have e := λ i hi => flat_get RecD.cells (s := 7) (λ _ => rfl) ds k i hi
 unfold recs
 rw [e 0 (by omega), e 1 (by omega), e 2 (by omega), e 3 (by omega), e 4 (by omega), e 5 (by omega), e 6 (by omega), h]
 exact ⟨rfl, rfl, rfl, rfl, rfl, rfl, rfl⟩
theorem Slc.recLen {w : World} {lo hi n c : Nat} {A : Option Addr} {ds : List RecD} (h : Slc w lo hi 7 A n c (recs ds)) : ds.length = n := by
 have := h.len; rw [recs_len] at this; omega
structure RecAt (w : World) (b off : Nat) (d : RecD) : Prop where
 c0 : w.cell? ⟨b, off, none⟩ = some (.int .i64 d.c)
 c1 : w.cell? ⟨b, off + 1, none⟩ = some (.int .i64 d.l)
 c2 : w.cell? ⟨b, off + 2, none⟩ = some (.int .i64 d.o)
 c3 : w.cell? ⟨b, off + 3, none⟩ = some (.int .i64 d.f)
 c4 : w.cell? ⟨b, off + 4, none⟩ = some (.int .i64 d.h)
 c5 : w.cell? ⟨b, off + 5, none⟩ = some (.int .i64 d.t)
 c6 : w.cell? ⟨b, off + 6, none⟩ = some (.string d.e)
theorem Slc.recAt {w : World} {lo hi n c : Nat} {A : Option Addr} {ds : List RecD} (h : Slc w lo hi 7 A n c (recs ds)) {k : Nat} (hk : k < n) :
   ∃ b off d, A = some ⟨b, off, none⟩ /\ lo <= b /\ b < hi /\ b < w.heap.size /\ ds[k]? = some d /\ RecAt w b (off + k * 7) d := by
 obtain ⟨b, off, e, h1, h2, h3, h4⟩ := h.cells hk
 have hl : k < ds.length := by rw [h.recLen]; exact hk
 obtain ⟨g0, g1, g2, g3, g4, g5, g6⟩ := recs_get (List.getElem?_eq_getElem hl)
 exact ⟨b, off, ds[k], e, h1, h2, h3, List.getElem?_eq_getElem hl, ⟨h4 0 _ g0, h4 1 _ g1, h4 2 _ g2, h4 3 _ g3, h4 4 _ g4, h4 5 _ g5, h4 6 _ g6⟩⟩
end Go.Proofs.Ytjcpjijihajopaa
namespace Go.Proofs.Ytjcpjijihajopaa
open Go.RowKit
def tariffB (f s p : Int) : Bool := decide (0 <= f /\ f <= 60 /\ 1 <= s /\ s <= 60 /\ 0 <= p /\ p <= 1000)
def chargeF (f s p m : Int) : Int := if m <= f then 0 else (m - f + s - 1) / s * p
def chargeOfF (f s p m : Int) : Int := if tariffB f s p = true /\ 0 <= m /\ m <= 3600 then chargeF f s p m else -1
theorem tariffB_bounds {f s p : Int} (h : tariffB f s p = true) : 0 <= f /\ f <= 60 /\ 1 <= s /\ s <= 60 /\ 0 <= p /\ p <= 1000 := by simpa [tariffB] using h
theorem div_bound (a s : Int) (h0 : 0 <= a) (h1 : a <= 3660) (hs : 1 <= s) : 0 <= a / s /\ a / s <= 3660 := by
 refine ⟨Int.ediv_nonneg h0 (by omega), ?_⟩
 exact Int.le_trans (Int.ediv_le_self s h0) h1
theorem mul_bound (a p : Int) (h0 : 0 <= a) (h1 : a <= 3660) (p0 : 0 <= p) (p1 : p <= 1000) : 0 <= a * p /\ a * p <= 3660000 := by
 refine ⟨Int.mul_nonneg h0 p0, ?_⟩
 have e1 : a * p <= 3660 * p := Int.mul_le_mul_of_nonneg_right h1 p0
 have e2 : (3660 : Int) * p <= 3660 * 1000 := Int.mul_le_mul_of_nonneg_left p1 (by omega)
 omega
theorem chargeF_bounds {f s p m : Int} (h : tariffB f s p = true) (h0 : 0 <= m) (h1 : m <= 3600) : 0 <= chargeF f s p m /\ chargeF f s p m <= 3660000 := by
 obtain ⟨b0, b1, b2, b3, b4, b5⟩ := tariffB_bounds h
 unfold chargeF
 split
 . omega
 . have hd := div_bound (m - f + s - 1) s (by omega) (by omega) b2
   exact mul_bound _ p hd.1 hd.2 b4 b5
set_option maxHeartbeats 1000000 in
theorem impl_TariffValid (f s p : Int) (w : World) :
   Calls Try.prog 44 #[.agg #[.int .i64 f, .int .i64 s, .int .i64 p]] w λ e w' => e = .returned (.bool (tariffB f s p)) /\ Below w.heap.size w w' := by
 go_enter Try.func44, Try.ntmps44
 go_wp2
 all_goals go_ret
 all_goals exact ⟨ret_bool (by rw [Bool.eq_iff_iff]; simp [tariffB]; omega), ((Below.refl _ _).alloc (Nat.le_refl _) _)⟩
set_option maxHeartbeats 1000000 in
theorem spec_TariffValid (f s p : Int) (w : World) :
   Calls Try.prog 40 #[.agg #[.int .i64 f, .int .i64 s, .int .i64 p]] w λ e w' => e = .returned (.bool (tariffB f s p)) /\ Below w.heap.size w w' := by
 go_enter Try.func40, Try.ntmps40
 go_wp2_with ((go_at_call 31; refine (l1In_any _ _ _ _).mono ?_; rintro e w' ⟨rfl, rfl⟩))
 all_goals go_ret
 all_goals exact ⟨ret_bool (by rw [Bool.eq_iff_iff]; simp [tariffB, inB] at *; omega), ((Below.refl _ _).alloc (Nat.le_refl _) _)⟩
set_option maxHeartbeats 1000000 in
theorem impl_ChargeOf_yes (f s p m : Int) (w : World) (h : tariffB f s p = true) (h0 : 0 <= m) (h1 : m <= 3600) :
   Calls Try.prog 27 #[.agg #[.int .i64 f, .int .i64 s, .int .i64 p], .int .i64 m] w λ e w' => e = .returned (.int .i64 (chargeF f s p m)) /\ Below w.heap.size w w' := by
 obtain ⟨b0, b1, b2, b3, b4, b5⟩ := tariffB_bounds h
 by_cases hm : m <= f
 · go_enter Try.func27, Try.ntmps27
   go_wp2_with fail
   refine (impl_TariffValid _ _ _ _).mono ?_
   rintro e w1 ⟨rfl, hb1⟩
   obtain ⟨k1, z1⟩ := blk_below hb1 (heap_alloc_new w _)
   have c1 := blk_cell k1
   have B1 := ((Below.refl w.heap.size w).alloc (Nat.le_refl _) _).trans (hb1.mono (by simp))
   go_wp2
   all_goals go_ret
   all_goals exact ⟨ret_int (by simp [chargeF, hm]), B1⟩
 . obtain ⟨d0, d1⟩ := div_bound (m - f + s - 1) s (by omega) (by omega) b2
   obtain ⟨p0, p1⟩ := mul_bound _ p d0 d1 b4 b5
   have hne : (s == 0) = false := by simp; omega
   go_enter Try.func27, Try.ntmps27
   go_wp2_with fail
   refine (impl_TariffValid _ _ _ _).mono ?_
   rintro e w1 ⟨rfl, hb1⟩
   obtain ⟨k1, z1⟩ := blk_below hb1 (heap_alloc_new w _)
   have c1 := blk_cell k1
   have B1 := ((Below.refl w.heap.size w).alloc (Nat.le_refl _) _).trans (hb1.mono (by simp))
   go_wp2
   all_goals go_ret
   all_goals exact ⟨ret_int (by rw [chargeF, if_neg (by omega)]), B1⟩
set_option maxHeartbeats 1000000 in
theorem impl_ChargeOf_no (f s p m : Int) (w : World) (h : ¬ (tariffB f s p = true /\ 0 <= m /\ m <= 3600)) :
   Calls Try.prog 27 #[.agg #[.int .i64 f, .int .i64 s, .int .i64 p], .int .i64 m] w λ e w' => e = .returned (.int .i64 (-1)) /\ Below w.heap.size w w' := by
 by_cases hT : tariffB f s p = true
 . by_cases hm : 0 <= m
   all_goals
     go_enter Try.func27, Try.ntmps27
     go_wp2_with fail
     refine (impl_TariffValid _ _ _ _).mono ?_
     rintro e w1 ⟨rfl, hb1⟩
     have B1 := ((Below.refl w.heap.size w).alloc (Nat.le_refl _) _).trans (hb1.mono (by simp))
     have hm' : m < 0 \/ 3600 < m := by
       have : ¬ (0 <= m /\ m <= 3600) := λ x => h ⟨hT, x⟩
       omega
     clear h
     rcases hm' with hm' | hm'
     all_goals first | (exfalso; omega) | skip
     all_goals go_wp2
     all_goals go_ret
     all_goals exact ⟨rfl, B1⟩
 . have hT' : tariffB f s p = false := by simpa using hT
   clear h hT
   go_enter Try.func27, Try.ntmps27
   go_wp2_with fail
   refine (impl_TariffValid _ _ _ _).mono ?_
   rintro e w1 ⟨rfl, hb1⟩
   have B1 := ((Below.refl w.heap.size w).alloc (Nat.le_refl _) _).trans (hb1.mono (by simp))
   go_wp2
   all_goals go_ret
   all_goals exact ⟨rfl, B1⟩
theorem impl_ChargeOf (f s p m : Int) (w : World) :
   Calls Try.prog 27 #[.agg #[.int .i64 f, .int .i64 s, .int .i64 p], .int .i64 m] w λ e w' => e = .returned (.int .i64 (chargeOfF f s p m)) /\ Below w.heap.size w w' := by
 by_cases h : tariffB f s p = true /\ 0 <= m /\ m <= 3600
 . rw [chargeOfF, if_pos h]; exact impl_ChargeOf_yes f s p m w h.1 h.2.1 h.2.2
 . rw [chargeOfF, if_neg h]; exact impl_ChargeOf_no f s p m w h
theorem zero_div (s p : Int) (hs : 1 <= s) : (s - 1) / s * p = 0 := by
 rw [Int.ediv_eq_zero_of_lt (by omega) (by omega)]; simp
theorem chargeF_alt (f s p m : Int) (hs : 1 <= s) : chargeF f s p m = if m < f then 0 else (m - f + s - 1) / s * p := by
 unfold chargeF
 by_cases h : m < f
 . rw [if_pos h, if_pos (by omega)]
 . rw [if_neg h]
   by_cases e : m = f
   . subst e
     rw [if_pos (by omega), show m - m + s - 1 = s - 1 by omega, zero_div s p hs]
   . rw [if_neg (by omega)]
set_option maxHeartbeats 1000000 in
theorem spec_l8Charge (f s p m : Int) (w : World) (h : tariffB f s p = true) (h0 : 0 <= m) (h1 : m <= 3600) :
   Calls Try.prog 43 #[.agg #[.int .i64 f, .int .i64 s, .int .i64 p], .int .i64 m] w λ e w' => e = .returned (.int .i64 (chargeF f s p m)) /\ Below w.heap.size w w' := by
 obtain ⟨b0, b1, b2, b3, b4, b5⟩ := tariffB_bounds h
 have hne : (s == 0) = false := by simp; omega
 have H := Lib.hid (chargeF_alt f s p m b2)
 by_cases hm : m < f
 . have H0 := Lib.hid (zero_div s p b2)
   obtain ⟨d0, d1⟩ := div_bound (s - 1) s (by omega) (by omega) b2
   obtain ⟨p0, p1⟩ := mul_bound _ p d0 d1 b4 b5
   have hx : m - f < 0 := by omega
   go_enter Try.func43, Try.ntmps43
   go_wp2
   go_quiet (fail)
   go_wp2
   go_ret
   exact ⟨ret_int (by rw [H.out, if_pos hm]; exact H0.out), below_drewN ((Below.refl _ _).alloc (Nat.le_refl _) _) _⟩
 . obtain ⟨d0, d1⟩ := div_bound (m - f + s - 1) s (by omega) (by omega) b2
   obtain ⟨p0, p1⟩ := mul_bound _ p d0 d1 b4 b5
   have hx : 0 <= m - f := by omega
   go_enter Try.func43, Try.ntmps43
   go_wp2
   go_quiet (fail)
   go_wp2
   go_ret
   exact ⟨ret_int (by rw [H.out, if_neg (by omega)]), below_drewN ((Below.refl _ _).alloc (Nat.le_refl _) _) _⟩
end Go.Proofs.Ytjcpjijihajopaa
namespace Go.Proofs.Ytjcpjijihajopaa
open Go.RowKit
def recP (c l o f h t : Int) (e : List UInt8) : Prop :=
 1 <= c /\ c <= 99 /\ 1 <= l /\ l <= 6 /\ 0 <= o /\ o <= 4 /\ 0 <= f /\ f <= 3600 /\
   ((e = [111, 112, 101, 110] /\ t = -1 /\ ((o = 0 /\ h = -1) \/ (o ≠ 0 /\ f <= h /\ h <= 3600))) \/
    (e = [100, 111, 110, 101] /\ o ≠ 0 /\ f <= h /\ h <= t /\ t <= 3600) \/
    ((e = [108, 101, 102, 116] \/ e = [116, 105, 114, 101, 100]) /\ o = 0 /\ h = -1 /\ f <= t /\ t <= 3600))
instance (c l o f h t : Int) (e : List UInt8) : Decidable (recP c l o f h t e) := by unfold recP; infer_instance
def recB (c l o f h t : Int) (e : List UInt8) : Bool := decide (recP c l o f h t e)
set_option maxHeartbeats 2000000 in
theorem impl_RecordValid (c l o f h t : Int) (e : ByteArray) (w : World) :
   Calls Try.prog 53 #[.agg #[.int .i64 c, .int .i64 l, .int .i64 o, .int .i64 f, .int .i64 h, .int .i64 t, .string e]] w λ x w' => x = .returned (.bool (recB c l o f h t e.toList)) /\ Below w.heap.size w w' := by
 go_enter Try.func53, Try.ntmps53
 go_wp2
 all_goals go_ret
 all_goals refine ⟨ret_bool ?_, ((Below.refl _ _).alloc (Nat.le_refl _) _)⟩
 all_goals rw [Bool.eq_iff_iff]
 all_goals simp [recB, recP]
 all_goals grind
def overP (o f h t : Int) (e : List UInt8) : Prop :=
 (e = [100, 111, 110, 101] /\ 0 < o /\ f <= h /\ h <= t /\ t <= 3600 /\ f <= t) \/
    ((e = [108, 101, 102, 116] \/ e = [116, 105, 114, 101, 100]) /\ o = 0 /\ h = -1 /\ f <= t /\ t <= 3600)
instance (o f h t : Int) (e : List UInt8) : Decidable (overP o f h t e) := by unfold overP; infer_instance
def overB (o f h t : Int) (e : List UInt8) : Bool := decide (overP o f h t e)
set_option maxHeartbeats 2000000 in
theorem spec_l8Over (c l o f h t : Int) (e : ByteArray) (w : World) :
   Calls Try.prog 81 #[.agg #[.int .i64 c, .int .i64 l, .int .i64 o, .int .i64 f, .int .i64 h, .int .i64 t, .string e]] w λ x w' => x = .returned (.bool (overB o f h t e.toList)) /\ Below w.heap.size w w' := by
 go_enter Try.func81, Try.ntmps81
 go_wp2_with ((go_at_call 31; refine (l1In_any _ _ _ _).mono ?_; rintro e w' ⟨rfl, rfl⟩))
 all_goals go_ret
 all_goals refine ⟨ret_bool ?_, ((Below.refl _ _).alloc (Nat.le_refl _) _)⟩
 all_goals rw [Bool.eq_iff_iff]
 all_goals simp [overB, overP, inB] at *
 all_goals grind
set_option maxHeartbeats 2000000 in
theorem spec_RecordValid (c l o f h t : Int) (e : ByteArray) (w : World) :
   Calls Try.prog 58 #[.agg #[.int .i64 c, .int .i64 l, .int .i64 o, .int .i64 f, .int .i64 h, .int .i64 t, .string e]] w λ x w' => x = .returned (.bool (recB c l o f h t e.toList)) /\ Below w.heap.size w w' := by
 go_enter Try.func58, Try.ntmps58
 go_wp2_with (first | (go_at_call 31; refine (l1In_any _ _ _ _).mono ?_; rintro e w' ⟨rfl, rfl⟩) | (go_at_call 81; refine (spec_l8Over _ _ _ _ _ _ _ _).mono ?_; rintro e w1 ⟨rfl, hb1⟩))
 all_goals go_ret
 all_goals refine ⟨ret_bool ?_, by first | exact ((Below.refl _ _).alloc (Nat.le_refl _) _) | exact ((Below.refl _ _).alloc (Nat.le_refl _) _).trans (hb1.mono (by simp))⟩
 all_goals rw [Bool.eq_iff_iff]
 all_goals simp [recB, recP, overB, overP, inB] at *
 all_goals grind
end Go.Proofs.Ytjcpjijihajopaa
namespace Go.Proofs.Ytjcpjijihajopaa
open Go.RowKit
theorem Slc.rec7 {w : World} {lo hi n c : Nat} {A : Option Addr} {ds : List RecD} (h : Slc w lo hi 7 A n c (recs ds)) {k : Nat} (hk : k < n) :
   ∃ b off d, A = some ⟨b, off, none⟩ /\ lo <= b /\ b < hi /\ b < w.heap.size /\ ds[k]? = some d /\ w.cell? ⟨b, off + k * 7, none⟩ = some (.int .i64 d.c) /\ w.cell? ⟨b, off + k * 7 + 1, none⟩ = some (.int .i64 d.l) /\ w.cell? ⟨b, off + k * 7 + 2, none⟩ = some (.int .i64 d.o) /\ w.cell? ⟨b, off + k * 7 + 3, none⟩ = some (.int .i64 d.f) /\ w.cell? ⟨b, off + k * 7 + 4, none⟩ = some (.int .i64 d.h) /\ w.cell? ⟨b, off + k * 7 + 5, none⟩ = some (.int .i64 d.t) /\ w.cell? ⟨b, off + k * 7 + 6, none⟩ = some (.string d.e) := by
 obtain ⟨b, off, d, e, h1, h2, h3, hd, ⟨c0, c1, c2, c3, c4, c5, c6⟩⟩ := h.recAt hk
 exact ⟨b, off, d, e, h1, h2, h3, hd, c0, c1, c2, c3, c4, c5, c6⟩
theorem info_rec : (Try.prog.info? 50).map (λ i => (i.zero, i.size, i.bytes)) = some (some (.agg #[.int .i64 0, .int .i64 0, .int .i64 0, .int .i64 0, .int .i64 0, .int .i64 0, .string ⟨#[]⟩]), 7, 64) := by kernel_rfl
end Go.Proofs.Ytjcpjijihajopaa
namespace Go.Proofs.Ytjcpjijihajopaa
open Go.RowKit
end Go.Proofs.Ytjcpjijihajopaa
namespace Go.Proofs.Ytjcpjijihajopaa
open Go.RowKit
theorem allF_snoc {α : Type} {p : α -> Bool} {l : List α} {k : Nat} {a : α} (h : ∀ j, j < k -> ∀ b, l[j]? = some b -> p b = true) (hk : l[k]? = some a) (ha : p a = true) : ∀ j, j < k + 1 -> ∀ b, l[j]? = some b -> p b = true := by
 intro j hj b hb
 by_cases e : j = k
 . subst e; rw [hk] at hb; injection hb with hb; subst hb; exact ha
 . exact h j (by omega) b hb
theorem allF_of {α : Type} {p : α -> Bool} {l : List α} {k : Nat} (h : ∀ j, j < k -> ∀ b, l[j]? = some b -> p b = true) (hk : l.length <= k) : l.all p = true := by
 rw [List.all_eq_true]; intro a ha
 obtain ⟨j, hj, e⟩ := List.mem_iff_getElem.1 ha
 exact h j (by omega) a (by rw [List.getElem?_eq_getElem hj, e])
theorem allF_not {α : Type} {p : α -> Bool} {l : List α} {k : Nat} {a : α} (hk : l[k]? = some a) (ha : p a = false) : l.all p = false := by
 rw [List.all_eq_false]; exact ⟨a, List.mem_of_getElem? hk, by simp [ha]⟩
def recOk (d : RecD) : Bool := recB d.c d.l d.o d.f d.h d.t d.e.toList
def validR (ds : List RecD) : Bool := decide (ds.length <= 60) && ds.all recOk
theorem validR_not {ds : List RecD} (h : ds.all recOk = false) : validR ds = false := by simp only [validR, h, Bool.and_false]
theorem validR_all {ds : List RecD} (h : ds.all recOk = true) : validR ds = decide (ds.length <= 60) := by simp only [validR, h, Bool.and_true]
theorem validR_len {ds : List RecD} (h : ¬ ds.length <= 60) : validR ds = false := by simp only [validR, h, decide_false, Bool.false_and]
theorem recOk_spec (d : RecD) (w : World) : Calls Try.prog 58 #[.agg #[.int .i64 d.c, .int .i64 d.l, .int .i64 d.o, .int .i64 d.f, .int .i64 d.h, .int .i64 d.t, .string d.e]] w λ x w' => x = .returned (.bool (recOk d)) /\ Below w.heap.size w w' := spec_RecordValid _ _ _ _ _ _ _ _
theorem recOk_impl (d : RecD) (w : World) : Calls Try.prog 53 #[.agg #[.int .i64 d.c, .int .i64 d.l, .int .i64 d.o, .int .i64 d.f, .int .i64 d.h, .int .i64 d.t, .string d.e]] w λ x w' => x = .returned (.bool (recOk d)) /\ Below w.heap.size w w' := impl_RecordValid _ _ _ _ _ _ _ _
set_option maxHeartbeats 1000000 in
theorem spec_l8Valid (lo hi n c : Nat) (A : Option Addr) (ds : List RecD) (w : World) (h : Slc w lo hi 7 A n c (recs ds)) (hn : n <= 1048576) :
   Calls Try.prog 41 #[.slice A n c] w λ e w' => e = .returned (.bool (validR ds)) /\ Below w.heap.size w w' := by
 have hl := Lib.hid h.recLen
 go_enter Try.func41, Try.ntmps41
 go_wp2
 go_loopw [3] (λ i wr => ∃ k : Nat, k <= n /\ i = .int .i64 k /\ Below w.heap.size w wr /\ ∀ j, j < k -> ∀ b, ds[j]? = some b -> recOk b = true) (λ i _ => n - (intOf i).toNat)
 case atStart => exact ⟨0, Nat.zero_le _, rfl, Below.refl _ _, λ j hj => absurd hj (by omega)⟩
 case round =>
   obtain ⟨k, hk, rfl, B, hcs⟩ := hrel
   have HC := Lib.hid hcs
   clear hcs
   by_cases hlt : k < n
   . obtain ⟨b, off, d, hA, _, _, h3, hxk, hv0, hv1, hv2, hv3, hv4, hv5, hv6⟩ := (h.below B).rec7 hlt
     subst hA
     have HX := Lib.hid hxk
     clear hxk h
     obtain ⟨t, ht⟩ : ∃ t, t = recOk d := ⟨_, rfl⟩
     have HT := Lib.hid ht
     clear ht
     go_wp2_with fail
     refine (recOk_spec d _).mono ?_
     rintro e w1 ⟨rfl, b1⟩
     have B1 := below_step B b1
     rw [<- HT.out]
     clear hv0 hv1 hv2 hv3 hv4 hv5 hv6 h3 b1 B
     cases t
     . go_wp2
       go_ret
       exact ⟨ret_bool (by symm; rw [validR_not (allF_not HX.out HT.out.symm)]), B1⟩
     . go_wp2
       go_roundw
       case rel => exact ⟨k + 1, by omega, by go_num, B1, allF_snoc HC.out HX.out HT.out.symm⟩
       case measure => simp [intOf]; omega
   . have e : n = k := by omega
     subst e
     have HA := Lib.hid (allF_of (p := recOk) HC.out (by rw [hl.out]; exact Nat.le_refl _))
     clear h
     by_cases h60 : n <= 60
     . go_wp2
       go_ret
       exact ⟨ret_bool (by symm; rw [validR_all HA.out, hl.out]; simp [h60]; omega), B⟩
     . go_wp2
       go_ret
       exact ⟨ret_bool (by symm; rw [validR_all HA.out, hl.out]; simp [h60]; omega), B⟩
set_option maxHeartbeats 1000000 in
theorem impl_recordsValid (lo hi n c : Nat) (A : Option Addr) (ds : List RecD) (w : World) (h : Slc w lo hi 7 A n c (recs ds)) (hn : n <= 1048576) :
   Calls Try.prog 45 #[.slice A n c] w λ e w' => e = .returned (.bool (validR ds)) /\ Below w.heap.size w w' := by
 have hl := Lib.hid h.recLen
 by_cases h60 : n <= 60
 · go_enter Try.func45, Try.ntmps45
   go_wp2
   go_loopw [10] (λ i wr => ∃ k : Nat, k <= n /\ i = .int .i64 k /\ Below w.heap.size w wr /\ ∀ j, j < k -> ∀ b, ds[j]? = some b -> recOk b = true) (λ i _ => n - (intOf i).toNat)
   case atStart => exact ⟨0, Nat.zero_le _, rfl, Below.refl _ _, λ j hj => absurd hj (by omega)⟩
   case round =>
     obtain ⟨k, hk, rfl, B, hcs⟩ := hrel
     have HC := Lib.hid hcs
     clear hcs
     by_cases hlt : k < n
     . obtain ⟨b, off, d, hA, _, _, h3, hxk, hv0, hv1, hv2, hv3, hv4, hv5, hv6⟩ := (h.below B).rec7 hlt
       subst hA
       have HX := Lib.hid hxk
       clear hxk h
       obtain ⟨t, ht⟩ : ∃ t, t = recOk d := ⟨_, rfl⟩
       have HT := Lib.hid ht
       clear ht
       go_wp2_with fail
       refine (recOk_impl d _).mono ?_
       rintro e w1 ⟨rfl, b1⟩
       have B1 := below_step (below_al B _) b1
       rw [<- HT.out]
       clear hv0 hv1 hv2 hv3 hv4 hv5 hv6 h3 b1 B
       cases t
       . go_wp2
         go_ret
         exact ⟨ret_bool (by symm; rw [validR_not (allF_not HX.out HT.out.symm)]), B1⟩
       . go_wp2
         go_roundw
         case rel => exact ⟨k + 1, by omega, by go_num, B1, allF_snoc HC.out HX.out HT.out.symm⟩
         case measure => simp [intOf]; omega
     . have e : n = k := by omega
       subst e
       have HA := Lib.hid (allF_of (p := recOk) HC.out (by rw [hl.out]; exact Nat.le_refl _))
       clear h
       go_wp2
       go_ret
       exact ⟨ret_bool (by symm; rw [validR_all HA.out, hl.out]; simp [h60]), B⟩
 . clear h
   go_enter Try.func45, Try.ntmps45
   go_wp2
   go_ret
   exact ⟨ret_bool (by symm; rw [validR_len (by rw [hl.out]; exact h60)]), Below.refl _ _⟩
end Go.Proofs.Ytjcpjijihajopaa
namespace Go.Proofs.Ytjcpjijihajopaa
open Go.RowKit
end Go.Proofs.Ytjcpjijihajopaa
namespace Go.Proofs.Ytjcpjijihajopaa
open Go.RowKit
def sumR (f : RecD -> Int) (ds : List RecD) : Int := (ds.map f).sum
theorem sumR_succ {f : RecD -> Int} {ds : List RecD} {k : Nat} {d : RecD} (h : ds[k]? = some d) : sumR f (ds.take (k + 1)) = sumR f (ds.take k) + f d := by
 unfold sumR
 rw [List.take_add_one, h]
 simp
end Go.Proofs.Ytjcpjijihajopaa
namespace Go.Proofs.Ytjcpjijihajopaa
open Go.RowKit
end Go.Proofs.Ytjcpjijihajopaa
namespace Go.Proofs.Ytjcpjijihajopaa
open Go.RowKit
def talkF (c l o f h t : Int) (e : List UInt8) : Int := if recB c l o f h t e = true /\ e = [100, 111, 110, 101] then t - h else -1
set_option maxHeartbeats 1000000 in
theorem impl_TalkMinutes (c l o f h t : Int) (e : ByteArray) (w : World) :
   Calls Try.prog 28 #[.agg #[.int .i64 c, .int .i64 l, .int .i64 o, .int .i64 f, .int .i64 h, .int .i64 t, .string e]] w λ x w' => x = .returned (.int .i64 (talkF c l o f h t e.toList)) /\ Below w.heap.size w w' := by
 by_cases hr : recB c l o f h t e.toList = true
 . by_cases hd : e.toList = [100, 111, 110, 101]
   . have hb : 0 <= t - h /\ t - h <= 3600 := by
       have := of_decide_eq_true hr
       simp only [recP, hd] at this
       simp at this
       omega
     obtain ⟨hb0, hb1⟩ := hb
     have H := Lib.hid hr
     have hb' : (e.toList == [100, 111, 110, 101]) = true := by simp [hd]
     have hrf : talkF c l o f h t e.toList = t - h := by rw [talkF, if_pos ⟨hr, hd⟩]
     have HF := Lib.hid hrf
     clear hd hrf
     go_enter Try.func28, Try.ntmps28
     go_wp2_with fail
     refine (impl_RecordValid _ _ _ _ _ _ _ _).mono ?_
     rintro e w1 ⟨rfl, hb1⟩
     obtain ⟨k0_1, z0_1⟩ := blk_below hb1 (by first | exact heap_alloc_new _ _ | exact blk_alloc (heap_alloc_new _ _) _ | exact blk_alloc (blk_alloc (heap_alloc_new _ _) _) _)
     have c0_1 := blk_cell k0_1
     have B1 := below_step (w := w) (by first | exact Below.refl _ _ | exact below_al (Below.refl _ _) _ | exact below_al (below_al (Below.refl _ _) _) _ | exact below_al (below_al (below_al (Below.refl _ _) _) _) _ | exact below_al (below_al (below_al (below_al (Below.refl _ _) _) _) _) _ | exact below_al (below_al (below_al (below_al (below_al (Below.refl _ _) _) _) _) _) _) hb1
     clear hb1
     go_wp2
     go_ret
     exact ⟨ret_int HF.out.symm, B1⟩
   . have hrf : talkF c l o f h t e.toList = -1 := by rw [talkF, if_neg (λ x => hd x.2)]
     have HF := Lib.hid hrf
     have hb' : (e.toList == [100, 111, 110, 101]) = false := by simp [hd]
     clear hrf hd
     go_enter Try.func28, Try.ntmps28
     go_wp2_with fail
     refine (impl_RecordValid _ _ _ _ _ _ _ _).mono ?_
     rintro e w1 ⟨rfl, hb1⟩
     obtain ⟨k0_1, z0_1⟩ := blk_below hb1 (by first | exact heap_alloc_new _ _ | exact blk_alloc (heap_alloc_new _ _) _ | exact blk_alloc (blk_alloc (heap_alloc_new _ _) _) _)
     have c0_1 := blk_cell k0_1
     have B1 := below_step (w := w) (by first | exact Below.refl _ _ | exact below_al (Below.refl _ _) _ | exact below_al (below_al (Below.refl _ _) _) _ | exact below_al (below_al (below_al (Below.refl _ _) _) _) _ | exact below_al (below_al (below_al (below_al (Below.refl _ _) _) _) _) _ | exact below_al (below_al (below_al (below_al (below_al (Below.refl _ _) _) _) _) _) _) hb1
     clear hb1
     go_wp2
     go_ret
     exact ⟨ret_int HF.out.symm, B1⟩
 . have hr' : recB c l o f h t e.toList = false := by simpa using hr
   have hrf : talkF c l o f h t e.toList = -1 := by rw [talkF, if_neg (λ x => hr x.1)]
   have HF := Lib.hid hrf
   clear hrf hr
   go_enter Try.func28, Try.ntmps28
   go_wp2_with fail
   refine (impl_RecordValid _ _ _ _ _ _ _ _).mono ?_
   rintro e w1 ⟨rfl, hb1⟩
   obtain ⟨k0_1, z0_1⟩ := blk_below hb1 (by first | exact heap_alloc_new _ _ | exact blk_alloc (heap_alloc_new _ _) _ | exact blk_alloc (blk_alloc (heap_alloc_new _ _) _) _)
   have c0_1 := blk_cell k0_1
   have B1 := below_step (w := w) (by first | exact Below.refl _ _ | exact below_al (Below.refl _ _) _ | exact below_al (below_al (Below.refl _ _) _) _ | exact below_al (below_al (below_al (Below.refl _ _) _) _) _ | exact below_al (below_al (below_al (below_al (Below.refl _ _) _) _) _) _ | exact below_al (below_al (below_al (below_al (below_al (Below.refl _ _) _) _) _) _) _) hb1
   clear hb1
   go_wp2
   go_ret
   exact ⟨ret_int HF.out.symm, B1⟩
set_option maxHeartbeats 1000000 in
theorem spec_TalkMinutes (c l o f h t : Int) (e : ByteArray) (w : World) :
   Calls Try.prog 42 #[.agg #[.int .i64 c, .int .i64 l, .int .i64 o, .int .i64 f, .int .i64 h, .int .i64 t, .string e]] w λ x w' => x = .returned (.int .i64 (talkF c l o f h t e.toList)) /\ Below w.heap.size w w' := by
 by_cases hr : recB c l o f h t e.toList = true
 . by_cases hd : e.toList = [100, 111, 110, 101]
   . have hb : 0 <= t - h /\ t - h <= 3600 := by
       have := of_decide_eq_true hr
       simp only [recP, hd] at this
       simp at this
       omega
     obtain ⟨hb0, hb1⟩ := hb
     have H := Lib.hid hr
     have hb' : (e.toList == [100, 111, 110, 101]) = true := by simp [hd]
     have hrf : talkF c l o f h t e.toList = t - h := by rw [talkF, if_pos ⟨hr, hd⟩]
     have HF := Lib.hid hrf
     clear hd hrf
     go_enter Try.func42, Try.ntmps42
     go_wp2_with fail
     refine (spec_RecordValid _ _ _ _ _ _ _ _).mono ?_
     rintro e w1 ⟨rfl, hb1⟩
     obtain ⟨k0_1, z0_1⟩ := blk_below hb1 (by first | exact heap_alloc_new _ _ | exact blk_alloc (heap_alloc_new _ _) _ | exact blk_alloc (blk_alloc (heap_alloc_new _ _) _) _)
     have c0_1 := blk_cell k0_1
     have B1 := below_step (w := w) (by first | exact Below.refl _ _ | exact below_al (Below.refl _ _) _ | exact below_al (below_al (Below.refl _ _) _) _ | exact below_al (below_al (below_al (Below.refl _ _) _) _) _ | exact below_al (below_al (below_al (below_al (Below.refl _ _) _) _) _) _ | exact below_al (below_al (below_al (below_al (below_al (Below.refl _ _) _) _) _) _) _) hb1
     clear hb1
     go_wp2
     go_ret
     exact ⟨ret_int HF.out.symm, B1⟩
   . have hrf : talkF c l o f h t e.toList = -1 := by rw [talkF, if_neg (λ x => hd x.2)]
     have HF := Lib.hid hrf
     have hb' : (e.toList == [100, 111, 110, 101]) = false := by simp [hd]
     clear hrf hd
     go_enter Try.func42, Try.ntmps42
     go_wp2_with fail
     refine (spec_RecordValid _ _ _ _ _ _ _ _).mono ?_
     rintro e w1 ⟨rfl, hb1⟩
     obtain ⟨k0_1, z0_1⟩ := blk_below hb1 (by first | exact heap_alloc_new _ _ | exact blk_alloc (heap_alloc_new _ _) _ | exact blk_alloc (blk_alloc (heap_alloc_new _ _) _) _)
     have c0_1 := blk_cell k0_1
     have B1 := below_step (w := w) (by first | exact Below.refl _ _ | exact below_al (Below.refl _ _) _ | exact below_al (below_al (Below.refl _ _) _) _ | exact below_al (below_al (below_al (Below.refl _ _) _) _) _ | exact below_al (below_al (below_al (below_al (Below.refl _ _) _) _) _) _ | exact below_al (below_al (below_al (below_al (below_al (Below.refl _ _) _) _) _) _) _) hb1
     clear hb1
     go_wp2
     go_ret
     exact ⟨ret_int HF.out.symm, B1⟩
 . have hr' : recB c l o f h t e.toList = false := by simpa using hr
   have hrf : talkF c l o f h t e.toList = -1 := by rw [talkF, if_neg (λ x => hr x.1)]
   have HF := Lib.hid hrf
   clear hrf hr
   go_enter Try.func42, Try.ntmps42
   go_wp2_with fail
   refine (spec_RecordValid _ _ _ _ _ _ _ _).mono ?_
   rintro e w1 ⟨rfl, hb1⟩
   obtain ⟨k0_1, z0_1⟩ := blk_below hb1 (by first | exact heap_alloc_new _ _ | exact blk_alloc (heap_alloc_new _ _) _ | exact blk_alloc (blk_alloc (heap_alloc_new _ _) _) _)
   have c0_1 := blk_cell k0_1
   have B1 := below_step (w := w) (by first | exact Below.refl _ _ | exact below_al (Below.refl _ _) _ | exact below_al (below_al (Below.refl _ _) _) _ | exact below_al (below_al (below_al (Below.refl _ _) _) _) _ | exact below_al (below_al (below_al (below_al (Below.refl _ _) _) _) _) _ | exact below_al (below_al (below_al (below_al (below_al (Below.refl _ _) _) _) _) _) _) hb1
   clear hb1
   go_wp2
   go_ret
   exact ⟨ret_int HF.out.symm, B1⟩
end Go.Proofs.Ytjcpjijihajopaa
namespace Go.Proofs.Ytjcpjijihajopaa
open Go.Joins Go.ChangeShapes Go.WideShapes Go.RowKit Go.Deep
section
variable {H : Type} {enc : TypeId × Value -> H} {P : Program} {w : World} {base : Nat} {held : Bool}
theorem add_plain (b off j : Nat) : (Addr.mk b off none).add j = ⟨b, off + j, none⟩ := by unfold Addr.add; split <;> simp_all
theorem slice_block {t e : TypeId} {A : Option Addr} {n c : Nat} {r : Reach} (ht : P.underlying t = some (.slice e)) (h : Value.okWide P w r base t (.slice A n c)) : ∀ a, A = some a -> a.spot = none /\ ∃ cs T fz, w.heap[a.block]? = some (.cells cs T fz) := by
 intro a e
 subst e
 simp only [Value.okWide, ht, Cell.okWide, Cell.ok, World.has] at h
 obtain ⟨_, _, _, hsp, row, cells, hsh, _⟩ := h
 refine ⟨hsp, ?_⟩
 unfold World.shape? at hsh
 split at hsh
 . rename_i cs T fz hb
   exact ⟨cs, T, fz, hb⟩
 . cases hsh
end
end Go.Proofs.Ytjcpjijihajopaa
namespace Go.Proofs.Ytjcpjijihajopaa
open Go.RowKit
theorem gb_setCell {w : World} (a : Addr) (v : Value) : w.grownBy (w.setCell a v) (some a.block) :=
 ⟨rfl, rfl, rfl, by simp [World.setCell], λ i hi hne => Below.heap_setCell w a v i (λ e => hne (by rw [e]))⟩
theorem gb_drewN {a w : World} {row : Option Nat} (h : a.grownBy w row) (n : Nat) : a.grownBy (w.drewN n) row := ⟨h.os, h.tape, h.output, h.size, h.block⟩
theorem gb_trans {a b c : World} {row : Option Nat} (h : a.grownBy b row) (k : b.grownBy c row) : a.grownBy c row :=
 ⟨k.os.trans h.os, k.tape.trans h.tape, k.output.trans h.output, Nat.le_trans h.size k.size, λ i hi hne => (k.block i (Nat.lt_of_lt_of_le hi h.size) hne).trans (h.block i hi hne)⟩
theorem gb_below {a w : World} (h : Below a.heap.size a w) (row : Option Nat) : a.grownBy w row := ⟨h.os, h.tape, h.output, h.size, λ i hi _ => h.block i hi⟩
theorem below_of_gb {B g : Nat} {a w : World} (h : a.grownBy w (some g)) (hB : B <= g) (hg : B <= a.heap.size) : Below B a w :=
 ⟨h.os, h.tape, h.output, h.size, λ i hi => h.block i (Nat.lt_of_lt_of_le hi hg) (by simp; omega)⟩
structure Bytes (w : World) (g : Nat) (A : Option Addr) (n : Nat) : Prop where
 le : n <= 2000
 at_ : 0 < n -> ∃ b off, A = some ⟨b, off, none⟩ /\ b < g /\ ∀ j, j < n -> ∃ v : Int, w.cell? ⟨b, off + j, none⟩ = some (.int .u8 v) /\ 0 <= v /\ v <= 255
theorem Bytes.keep {w w' : World} {g n : Nat} {A : Option Addr} (h : Bytes w g A n) (k : ∀ b, b < g -> w'.heap[b]? = w.heap[b]?) : Bytes w' g A n :=
 ⟨h.le, λ hn => by
   obtain ⟨b, off, e, hb, hj⟩ := h.at_ hn
   refine ⟨b, off, e, hb, λ j hjn => ?_⟩
   obtain ⟨v, hv, h0⟩ := hj j hjn
   exact ⟨v, (World.cell?_of_block (k b hb)).trans hv, h0⟩⟩
structure RdX (w : World) (g : Nat) (A : Option Addr) (n c p : Nat) : Prop where
 blk : w.heap[g]? = some (.cells #[.slice A n c, .int .i64 (p : Int)] 89)
 bytes : Bytes w g A n
 lt : p < 1000000000
def Drew (w : World) (g : Nat) (A : Option Addr) (n c p d : Nat) (K : Int -> Prop) (e : Ending) (w' : World) : Prop :=
 ∃ r : Int, e = .returned (.int .i64 r) /\ K r /\ w'.heap[g]? = some (.cells #[.slice A n c, .int .i64 ((p + d : Nat) : Int)] 89) /\ w.grownBy w' (some g)
set_option maxHeartbeats 2000000 in
theorem pick_zero (g p n c : Nat) (A : Option Addr) (m : Int) (w : World) (h : RdX w g A n c p) (hm : m < 1 \/ n = 0) :
   Calls Try.prog 61 #[.pointer (some ⟨g, 0, none⟩), .int .i64 m] w (Drew w g A n c p 1 λ r => r = 0) := by
 have hc := blk_cell h.blk
 have hf : ∀ o, w.frozen? ⟨g, o, none⟩ = false := λ o => by simp [World.frozen?, h.blk]
 have hp := h.lt
 have hb := h.blk
 have hn := h.bytes.le
 have HB := Lib.hid hb
 clear h hb
 by_cases hm1 : m < 1
 . clear hm
   go_enter Try.func61, Try.ntmps61
   go_wp2
   go_ret
   exact ⟨0, rfl, rfl, (blk_setCell HB.out _).trans (by simp), gb_setCell _ _⟩
 . have hn0 : n = 0 := by rcases hm with h | h; exact absurd h hm1; exact h
   subst hn0
   clear hm
   go_enter Try.func61, Try.ntmps61
   go_wp2
   go_ret
   exact ⟨0, rfl, rfl, (blk_setCell HB.out _).trans (by simp), gb_setCell _ _⟩
set_option maxHeartbeats 2000000 in
theorem pick_byte (g p n c : Nat) (A : Option Addr) (m : Int) (w : World) (h : RdX w g A n c p) (hm : 1 <= m) (hm2 : m <= 1000000) (hpn : p < n) :
   Calls Try.prog 61 #[.pointer (some ⟨g, 0, none⟩), .int .i64 m] w (Drew w g A n c p 1 λ r => 0 <= r /\ r < m) := by
 have hc := blk_cell h.blk
 have hf : ∀ o, w.frozen? ⟨g, o, none⟩ = false := λ o => by simp [World.frozen?, h.blk]
 have hp := h.lt
 have hb := h.blk
 have hn := h.bytes.le
 have HB := Lib.hid hb
 obtain ⟨b, off, rfl, hbl, hj⟩ := h.bytes.at_ (by omega)
 obtain ⟨v, hv, v0, v1⟩ := hj p hpn
 have hn0 : ((n : Int) == 0) = false := by simp; omega
 have hm0 : (m == 0) = false := by simp; omega
 clear h hb hj
 go_enter Try.func61, Try.ntmps61
 go_wp2
 go_ret
 exact ⟨_, rfl, ⟨Int.emod_nonneg _ (by omega), Int.emod_lt_of_pos _ (by omega)⟩, (blk_setCell HB.out _).trans (by simp), gb_setCell _ _⟩
theorem xor_nonneg (x y : Int) (hx : 0 <= x) (hx2 : x < 9223372036854775808) (hy : 0 <= y) (hy2 : y < 9223372036854775808) : 0 <= bits .xor .i64 x y := by
 obtain ⟨a, rfl⟩ := Int.eq_ofNat_of_zero_le hx
 obtain ⟨b, rfl⟩ := Int.eq_ofNat_of_zero_le hy
 have ha : a < 9223372036854775808 := by omega
 have hb : b < 9223372036854775808 := by omega
 have e : ∀ z : Nat, z < 9223372036854775808 -> (BitVec.ofInt 64 (z : Int)).toNat = z := λ z hz => by
   rw [BitVec.ofInt_natCast, BitVec.toNat_ofNat]; exact Nat.mod_eq_of_lt (by omega)
 have hlt : a ^^^ b < 2 ^ 63 := Nat.xor_lt_two_pow (by omega) (by omega)
 show 0 <= IntKind.i64.wrap ((BitVec.ofInt 64 (a : Int) ^^^ BitVec.ofInt 64 (b : Int)).toNat : Int)
 rw [BitVec.toNat_xor, e a ha, e b hb, IntKind.wrap_i64]
 omega
set_option maxHeartbeats 4000000 in
theorem pick_mix (g p n c : Nat) (A : Option Addr) (m : Int) (w : World) (h : RdX w g A n c p) (hm : 1 <= m) (hm2 : m <= 1000000) (hpn : ¬ p < n) (h0 : 0 < n) :
   Calls Try.prog 61 #[.pointer (some ⟨g, 0, none⟩), .int .i64 m] w (Drew w g A n c p 1 λ r => 0 <= r /\ r < m) := by
 have hc := blk_cell h.blk
 have hf : ∀ o, w.frozen? ⟨g, o, none⟩ = false := λ o => by simp [World.frozen?, h.blk]
 have hp := h.lt
 have hb := h.blk
 have hn := h.bytes.le
 have HB := Lib.hid hb
 obtain ⟨b, off, rfl, hbl, hj⟩ := h.bytes.at_ h0
 have hnz : (0 : Int) < n := by omega
 have i1 : (0 : Int) <= (p : Int) % n := Int.emod_nonneg _ (by omega)
 have i2 : (p : Int) % n < n := Int.emod_lt_of_pos _ hnz
 have i3 : (0 : Int) <= ((p : Int) * 7 + 3) % n := Int.emod_nonneg _ (by omega)
 have i4 : ((p : Int) * 7 + 3) % n < n := Int.emod_lt_of_pos _ hnz
 have q0 : (0 : Int) <= (p : Int) / n := Int.ediv_nonneg (by omega) (by omega)
 have q1 : (p : Int) / n <= 1000000000 := Int.le_trans (Int.ediv_le_self _ (by omega)) (by omega)
 obtain ⟨v, hv, v0, v1⟩ := hj (p % n) (Nat.mod_lt _ h0)
 obtain ⟨u, hu, u0, u1⟩ := hj ((p * 7 + 3) % n) (Nat.mod_lt _ h0)
 have hn0 : ((n : Int) == 0) = false := by simp; omega
 have hm0 : (m == 0) = false := by simp; omega
 clear h hb hj
 go_enter Try.func61, Try.ntmps61
 go_wp2
 go_quiet (fail)
 go_wp2
 go_ret
 have hx := xor_nonneg (v * 131 + u * 1117 + ↑p * 29 + ↑p / ↑n * 53) ((v * 131 + u * 1117 + ↑p * 29 + ↑p / ↑n * 53) / 64) (by omega) (by omega) (by omega) (by omega)
 exact ⟨_, rfl, ⟨Int.tmod_nonneg _ hx, Int.tmod_lt_of_pos _ (by omega)⟩, (blk_setCell HB.out _).trans (by simp), gb_drewN (gb_setCell _ _) _⟩
theorem Drew.mono {w w' : World} {g n c p d : Nat} {A : Option Addr} {K K' : Int -> Prop} {e : Ending} (h : Drew w g A n c p d K e w') (hk : ∀ r, K r -> K' r) : Drew w g A n c p d K' e w' :=
 let ⟨r, he, hr, hb, hg⟩ := h; ⟨r, he, hk r hr, hb, hg⟩
theorem pick_anyX (g p n c : Nat) (A : Option Addr) (m : Int) (w : World) (h : RdX w g A n c p) (hm : 1 <= m) (hm2 : m <= 1000000) :
   Calls Try.prog 61 #[.pointer (some ⟨g, 0, none⟩), .int .i64 m] w (Drew w g A n c p 1 λ r => 0 <= r /\ r < m) := by
 by_cases h0 : n = 0
 . exact (pick_zero g p n c A m w h (.inr h0)).mono λ _ _ hd => hd.mono λ r hr => by omega
 . by_cases hp : p < n
   . exact pick_byte g p n c A m w h hm hm2 hp
   . exact pick_mix g p n c A m w h hm hm2 hp (by omega)
theorem RdX.next {w w' : World} {g n c p d : Nat} {A : Option Addr} (h : RdX w g A n c p) (hb : w'.heap[g]? = some (.cells #[.slice A n c, .int .i64 ((p + d : Nat) : Int)] 89)) (hg : w.grownBy w' (some g)) (hp : p + d < 1000000000) : RdX w' g A n c (p + d) :=
 ⟨hb, h.bytes.keep λ b hl => hg.block b (Nat.lt_trans hl (blk_lt h.blk)) (by simp; omega), hp⟩
theorem gb_cell {w w' : World} {g b o : Nat} (h : w.grownBy w' (some g)) (hb : b < w.heap.size) (hne : b ≠ g) : w'.cell? ⟨b, o, none⟩ = w.cell? ⟨b, o, none⟩ :=
 World.cell?_of_block (h.block b hb (by simp; exact hne))
theorem gb_al {a w : World} {row : Option Nat} (h : a.grownBy w row) (o : Obj) : a.grownBy (w.alloc o) row :=
 ⟨h.os, h.tape, h.output, Nat.le_trans h.size (by simp), λ i hi hne => (Below.heap_alloc w o i (Nat.lt_of_lt_of_le hi h.size)).trans (h.block i hi hne)⟩
theorem blk_grown {W w1 : World} {N g : Nat} {o : Obj} (hb : W.grownBy w1 (some g)) (hN : W.heap[N]? = some o) (hne : N ≠ g) : w1.heap[N]? = some o /\ N < w1.heap.size :=
 ⟨(hb.block N (blk_lt hN) (by simp; exact hne)).trans hN, Nat.lt_of_lt_of_le (blk_lt hN) hb.size⟩
def Rd (w : World) (g : Nat) (A : Option Addr) (n c q : Nat) : Prop := ∃ p, p <= q /\ RdX w g A n c p
theorem Rd.mono {w : World} {g n c q q' : Nat} {A : Option Addr} (h : Rd w g A n c q) (hq : q <= q') : Rd w g A n c q' := let ⟨p, hp, hx⟩ := h; ⟨p, by omega, hx⟩
theorem Rd.keep {w w' : World} {g n c q : Nat} {A : Option Addr} (h : Rd w g A n c q) (k : ∀ b, b <= g -> w'.heap[b]? = w.heap[b]?) : Rd w' g A n c q :=
 let ⟨p, hp, hx⟩ := h; ⟨p, hp, (k g (Nat.le_refl _)).trans hx.blk, hx.bytes.keep λ b hb => k b (by omega), hx.lt⟩
theorem Rd.gblt {w : World} {g n c q : Nat} {A : Option Addr} (h : Rd w g A n c q) : g < w.heap.size := let ⟨_, _, hx⟩ := h; blk_lt hx.blk
theorem Rd.alloc {w : World} {g n c q : Nat} {A : Option Addr} (h : Rd w g A n c q) (o : Obj) : Rd (w.alloc o) g A n c q :=
 h.keep λ b hb => Below.heap_alloc w o b (Nat.lt_of_le_of_lt hb h.gblt)
theorem Rd.setCell {w : World} {g n c q : Nat} {A : Option Addr} (h : Rd w g A n c q) {a : Addr} (ha : g < a.block) (v : Value) : Rd (w.setCell a v) g A n c q :=
 h.keep λ b hb => Below.heap_setCell w a v b (by omega)
theorem Rd.below {w w' : World} {g n c q : Nat} {A : Option Addr} (h : Rd w g A n c q) (hb : Below w.heap.size w w') : Rd w' g A n c q :=
 h.keep λ b hl => hb.block b (Nat.lt_of_le_of_lt hl h.gblt)
theorem gb_set {a w : World} {row : Option Nat} (h : a.grownBy w row) {p : Addr} (hp : a.heap.size <= p.block) (v : Value) : a.grownBy (w.setCell p v) row :=
 ⟨h.os, h.tape, h.output, by simpa [World.setCell] using h.size, λ i hi hne => (Below.heap_setCell w p v i (by omega)).trans (h.block i hi hne)⟩
theorem blk_frozen {w : World} {N : Nat} {cs : Array Value} {T : TypeId} (h : w.heap[N]? = some (.cells cs T)) (o : Nat) : w.frozen? ⟨N, o, none⟩ = false := by simp [World.frozen?, h]
def Got (w : World) (g : Nat) (A : Option Addr) (n c q : Nat) (K : Int -> Prop) (e : Ending) (w' : World) : Prop :=
 ∃ r : Int, e = .returned (.int .i64 r) /\ K r /\ Rd w' g A n c q /\ w.grownBy w' (some g)
theorem got_of {w w' : World} {g n c p q : Nat} {A : Option Addr} {K : Int -> Prop} {e : Ending} (hx : RdX w g A n c p) (hp : p <= q) (hq : q + 1 < 1000000000) (h : Drew w g A n c p 1 K e w') : Got w g A n c (q + 1) K e w' := by
 obtain ⟨r, he, hr, hb, hg⟩ := h
 exact ⟨r, he, hr, ⟨p + 1, by omega, hx.next hb hg (by omega)⟩, hg⟩
theorem pick_any (g q n c : Nat) (A : Option Addr) (m : Int) (w : World) (h : Rd w g A n c q) (hq : q + 1 < 1000000000) (hm : 1 <= m) (hm2 : m <= 1000000) :
   Calls Try.prog 61 #[.pointer (some ⟨g, 0, none⟩), .int .i64 m] w (Got w g A n c (q + 1) λ r => 0 <= r /\ r < m) := by
 obtain ⟨p, hp, hx⟩ := h
 exact (pick_anyX g p n c A m w hx hm hm2).mono λ _ _ hd => got_of hx hp hq hd
set_option maxHeartbeats 2000000 in
theorem num_any (g q n c l lo k kc : Nat) (A : Option Addr) (w : World) (h : Rd w g A n c q) (hq : q + 1 < 1000000000) (hk : 0 < k) (hk2 : k <= 1000000) (hl : l < w.heap.size) (hlg : l ≠ g)
   (hc : ∀ j, j < k -> ∃ v : Int, w.cell? ⟨l, lo + j, none⟩ = some (.int .i64 v)) :
   Calls Try.prog 51 #[.pointer (some ⟨g, 0, none⟩), .slice (some ⟨l, lo, none⟩) k kc] w (Got w g A n c (q + 1) λ _ => True) := by
 have H := Lib.hid hc
 clear hc
 go_enter Try.func51, Try.ntmps51
 go_wp2_with fail
 refine (pick_any g q n c A _ _ h hq (by omega) (by omega)).mono ?_
 rintro e w1 ⟨r, rfl, ⟨r0, r1⟩, hr, hg⟩
 obtain ⟨v, hv⟩ := H.out r.toNat (by omega)
 have hv1 := (gb_cell hg hl hlg).trans hv
 clear hv
 go_wp2
 go_ret
 exact ⟨v, rfl, trivial, hr, hg⟩
theorem cells_of_blk {w : World} {l : Nat} {cs : Array Value} {T : TypeId} {fz : Nat × Nat} (h : w.heap[l]? = some (.cells cs T fz)) (k : Nat) (hk : ∀ j, j < k -> ∃ v : Int, cs[j]? = some (.int .i64 v)) :
   ∀ j, j < k -> ∃ v : Int, w.cell? ⟨l, 0 + j, none⟩ = some (.int .i64 v) := λ j hj => by
 obtain ⟨v, hv⟩ := hk j hj
 exact ⟨v, by rw [Nat.zero_add, blk_cell h, hv]⟩
end Go.Proofs.Ytjcpjijihajopaa
namespace Go.Proofs.Ytjcpjijihajopaa
open Go.RowKit
structure Code (w : World) (A : Option Addr) (n c : Nat) : Prop where
 le : n <= c
 cap : c <= maxLen
 at_ : 0 < n -> ∃ b off, A = some ⟨b, off, none⟩ /\ b < w.heap.size /\ ∀ j, j < n -> ∃ v : Int, w.cell? ⟨b, off + j, none⟩ = some (.int .u8 v) /\ 0 <= v /\ v <= 255
theorem Rd.drew {w : World} {g n c q : Nat} {A : Option Addr} (h : Rd w g A n c q) : Rd w.drew g A n c q := h.keep λ _ _ => rfl
theorem gb_drew {a w : World} {row : Option Nat} (h : a.grownBy w row) : a.grownBy w.drew row := ⟨h.os, h.tape, h.output, h.size, h.block⟩
def Opened (w : World) (e : Ending) (w' : World) : Prop := ∃ g A n c, e = .returned (.pointer (some ⟨g, 0, none⟩)) /\ Rd w' g A n c 0 /\ Below w.heap.size w w' /\ w.heap.size <= g
theorem bytes_alloc {w : World} {A : Option Addr} {n c m : Nat} (h : Code w A n c) (hm : m <= n) (hm2 : m <= 2000) (o : Obj) : Bytes (w.alloc o) w.heap.size A m :=
 ⟨hm2, λ h0 => by
   obtain ⟨b, off, e, hb, hj⟩ := h.at_ (by omega)
   refine ⟨b, off, e, hb, λ j hjm => ?_⟩
   obtain ⟨v, hv, h1⟩ := hj j (by omega)
   exact ⟨v, (World.cell?_alloc_lt w o _ hb).trans hv, h1⟩⟩
theorem Code.alloc {w : World} {A : Option Addr} {n c : Nat} (h : Code w A n c) (o : Obj) : Code (w.alloc o) A n c :=
 ⟨h.le, h.cap, λ h0 => by
   obtain ⟨b, off, e, hb, hj⟩ := h.at_ h0
   refine ⟨b, off, e, by simp; omega, λ j hjm => ?_⟩
   obtain ⟨v, hv, h1⟩ := hj j hjm
   exact ⟨v, (World.cell?_alloc_lt w o _ hb).trans hv, h1⟩⟩
set_option maxHeartbeats 2000000 in
theorem open_any (A : Option Addr) (n c : Nat) (w : World) (h : Code w A n c) : Calls Try.prog 49 #[.slice A n c] w (Opened w) := by
 have hl := h.le
 have hcm := h.cap
 unfold maxLen at hcm
 by_cases hn : 2000 < n
 . obtain ⟨b, off, rfl, hb, hj⟩ := h.at_ (by omega)
   clear hj
   go_enter Try.func49, Try.ntmps49
   go_wp2
   go_ret
   exact ⟨_, _, 2000, c, rfl, ⟨0, by omega, heap_alloc_new _ _, bytes_alloc h (by omega) (by omega) _, by omega⟩, below_al (Below.refl _ _) _, Nat.le_refl _⟩
 · go_enter Try.func49, Try.ntmps49
   go_wp2
   go_ret
   exact ⟨_, A, n, c, rfl, ⟨0, by omega, heap_alloc_new _ _, bytes_alloc h (by omega) (by omega) _, by omega⟩, below_al (Below.refl _ _) _, Nat.le_refl _⟩
end Go.Proofs.Ytjcpjijihajopaa
namespace Go.Proofs.Ytjcpjijihajopaa
open Go.Joins Go.ChangeShapes Go.WideShapes Go.RowKit Go.Deep
section
variable {H : Type} {enc : TypeId × Value -> H} {P : Program} {w : World} {base : Nat} {held : Bool}
theorem read_bytes {t e : TypeId} {A : Option Addr} {len cap : Nat} {d : DataW H} {p : List MemPlace} (ht : P.underlying t = some (.slice e)) (he : P.underlying e = some (.int .u8)) (hc : P.cellsOf e = 1)
   (h : DataW.Trod enc P w base (λ _ => true) held t (.slice A len cap) d p) : Code w A len cap := by
 obtain ⟨fuel, hf⟩ := h
 rcases open_ints ht he hc hf with ⟨hcs, _⟩ | ⟨a, len', cap', zs, hcs, _, hl, hm, hz, _, hcell, hwz⟩
 . simp [Value.cells] at hcs
   obtain ⟨rfl, rfl, rfl⟩ := hcs
   exact ⟨Nat.le_refl _, Nat.zero_le _, λ h0 => absurd h0 (by omega)⟩
 . simp [Value.cells] at hcs
   obtain ⟨rfl, rfl, rfl⟩ := hcs
   simp only [if_true] at hz
   refine ⟨hl, hm, λ h0 => ?_⟩
   obtain ⟨b, off, spot⟩ := a
   have h1 := hcell 0 (by omega)
   have hspot : spot = none := by simpa [Addr.add] using World.cell?_spot h1
   subst hspot
   have hb : b < w.heap.size := by have := World.block_lt_of_cell? w _ h1; rw [add_plain] at this; exact this
   refine ⟨b, off, rfl, hb, λ j hj => ?_⟩
   have h2 := hcell j (by omega)
   rw [add_plain] at h2
   have h3 := range_u8 hwz j
   rw [<- List.getD_eq_getElem?_getD] at h3
   exact ⟨_, h2, h3.1, h3.2⟩
end
end Go.Proofs.Ytjcpjijihajopaa
