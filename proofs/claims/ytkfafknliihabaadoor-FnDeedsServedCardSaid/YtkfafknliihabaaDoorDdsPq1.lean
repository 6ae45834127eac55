/-
 Part 1 of what stands behind the last text.
-/
import Derived.Test.YtkfafknliihabaaDoorRows
import Derived.ProofKit
import Derived.OpenShut
import Derived.ShutString
import Derived.ChangeOld
import Derived.Below
import Derived.Lib.SmallJoins
import Derived.Deep.Fields
import Derived.WalkKit
import Derived.WalkSpells
import Derived.WalkLawsBesides
import Derived.Lib.Hide
import Derived.Deep.Draws
import Derived.Deep.QuietTactic
import Derived.BigQuiet
import Derived.Laws.MakeOwn
import Derived.Deep.OwnRows
import Derived.Laws.OwnMore
import Derived.Deep.AppendLies
import Derived.Deep.AppendSrc
import Derived.Deep.RegionLaw
import Derived.OwnWalk
import Derived.Lib.ItoaNum
import Derived.Lib.ItoaLen
import Derived.Deep.Matrix
import Derived.Laws.BitsAllLaws
import Derived.Laws.BitsLemmas
import Derived.Laws.AppendOwn
import Derived.Deep.RegionWith
import Derived.Deep.RegionHeld3
import Derived.Laws.StructEq
import Derived.Maps.OwnSet
import Derived.Conc.LoneSelect
import Derived.Deep.CutRange
set_option linter.unusedSectionVars false
set_option linter.unusedSimpArgs false
set_option linter.unusedVariables false
namespace Go.Proofs.YtkfafknliihabaaDoor
open Go.Joins Go.ChangeShapes Go.WideShapes Go.RowKit Go.Deep
theorem own : ownKnob Tryd.prog.godebug = none:=by kernel_rfl
theorem laidOut : laidOutB Tryd.prog = true:=by kernel_rfl
end Go.Proofs.YtkfafknliihabaaDoor
namespace Go.Proofs.YtkfafknliihabaaDoor
open Go.RowKit
def inB (n lo hi : Int) : Bool:=decide (lo <= n /\ n <= hi)
theorem ret_bool {a b : Bool} (h : a = b) : Ending.returned (.bool a) = .returned (.bool b):=by rw [h]
theorem ret_int {k : IntKind} {a b : Int} (h : a = b) : Ending.returned (.int k a) = .returned (.int k b):=by rw [h]
theorem blk_lt {W : World} {N : Nat} {o : Obj} (hN : W.heap[N]? = some o) : N < W.heap.size:=by
 rcases Nat.lt_or_ge N W.heap.size with h | h
 ·exact h
 ·rw [Array.getElem?_eq_none h] at hN; cases hN
theorem blk_below {W w1 : World} {N : Nat} {o : Obj} (hb : Below W.heap.size W w1) (hN : W.heap[N]? = some o) : w1.heap[N]? = some o /\ N < w1.heap.size:=
 ⟨(hb.block N (blk_lt hN)).trans hN,Nat.lt_of_lt_of_le (blk_lt hN) hb.size⟩
theorem blk_alloc {W : World} {N : Nat} {o : Obj} (hN : W.heap[N]? = some o) (o' : Obj) : (W.alloc o').heap[N]? = some o:=(Below.heap_alloc W o' N (blk_lt hN)).trans hN
theorem below_step {w W w1 : World} (h : Below w.heap.size w W) (hb : Below W.heap.size W w1) : Below w.heap.size w w1:=h.trans (hb.mono h.size)
theorem below_al {w W : World} (h : Below w.heap.size w W) (o : Obj) : Below w.heap.size w (W.alloc o):=h.alloc h.size o
theorem blk_cell {w : World} {N : Nat} {cs : Array Value} {T : TypeId} {fz : Nat × Nat} (h : w.heap[N]? = some (.cells cs T fz)) (o : Nat) : w.cell? ⟨N,o,none⟩ = cs[o]?:=cell_of_row w N o cs T fz h
set_option maxHeartbeats 400000 in
theorem l1In_any (n lo hi : Int) (w : World) :
  Calls Tryd.prog 35 #[.int .i64 n,.int .i64 lo,.int .i64 hi] w λ e w' => e = .returned (.bool (inB n lo hi)) /\ w' = w:=by
 go_enter Tryd.func35, Tryd.ntmps35
 go_wp2
 all_goals go_ret
 all_goals exact ⟨ret_bool (by simp [inB]; omega),rfl⟩
end Go.Proofs.YtkfafknliihabaaDoor
namespace Go.Proofs.YtkfafknliihabaaDoor
open Go.RowKit
structure Slc (w : World) (lo hi s : Nat) (A : Option Addr) (n c : Nat) (xs : List Value) : Prop where
 len : xs.length = n * s
 le : n <= c
 cap : c <= maxLen
 at_ : 0 < n -> ∃ b off,A = some ⟨b,off,none⟩ /\ lo <= b /\ b < hi /\ b < w.heap.size /\ ∀ j v,xs[j]? = some v -> w.cell? ⟨b,off + j,none⟩ = some v
theorem Slc.keep {w w' : World} {lo hi s n c : Nat} {A : Option Addr} {xs : List Value} (h : Slc w lo hi s A n c xs) (hs : w.heap.size <= w'.heap.size) (k : ∀ b,lo <= b -> b < hi -> b < w.heap.size -> w'.heap[b]? = w.heap[b]?) : Slc w' lo hi s A n c xs:=
 ⟨h.len,h.le,h.cap,λ hn => by
  obtain ⟨b,off,e,h1,h2,h3,h4⟩:=h.at_ hn
  exact ⟨b,off,e,h1,h2,Nat.lt_of_lt_of_le h3 hs,λ j v hv => (World.cell?_of_block (k b h1 h2 h3)).trans (h4 j v hv)⟩⟩
theorem Slc.below {w w' : World} {lo hi s n c : Nat} {A : Option Addr} {xs : List Value} (h : Slc w lo hi s A n c xs) (hb : Below w.heap.size w w') : Slc w' lo hi s A n c xs:=
 h.keep hb.size λ b _ _ h3 => hb.block b h3
theorem Slc.wide {w : World} {lo hi lo' hi' s n c : Nat} {A : Option Addr} {xs : List Value} (h : Slc w lo hi s A n c xs) (h1 : lo' <= lo) (h2 : hi <= hi') : Slc w lo' hi' s A n c xs:=
 ⟨h.len,h.le,h.cap,λ hn => by obtain ⟨b,off,e,k1,k2,k3,k4⟩:=h.at_ hn; exact ⟨b,off,e,by omega,by omega,k3,k4⟩⟩
def ints (xs : List Int) : List Value:=xs.map (Value.int .i64)
theorem ints_get {xs : List Int} {k : Nat} (h : k < xs.length) : (ints xs)[k]? = some (.int .i64 xs[k]):=by simp [ints,h]
theorem Slc.cellAt {w : World} {lo hi n c : Nat} {A : Option Addr} {xs : List Int} (h : Slc w lo hi 1 A n c (ints xs)) {k : Nat} (hk : k < n) : ∃ b off v,A = some ⟨b,off,none⟩ /\ lo <= b /\ b < hi /\ b < w.heap.size /\ xs[k]? = some v /\ w.cell? ⟨b,off + k,none⟩ = some (.int .i64 v):=by
 obtain ⟨b,off,e,h1,h2,h3,h4⟩:=h.at_ (by omega)
 have hl : k < xs.length:=by have:=h.len; simp [ints] at this; omega
 exact ⟨b,off,xs[k],e,h1,h2,h3,List.getElem?_eq_getElem hl,h4 k _ (ints_get hl)⟩
theorem Slc.length {w : World} {lo hi n c : Nat} {A : Option Addr} {xs : List Int} (h : Slc w lo hi 1 A n c (ints xs)) : xs.length = n:=by have:=h.len; simp [ints] at this; exact this
theorem info_int : (Tryd.prog.info? 3).map (λ i => (i.zero,i.size,i.bytes)) = some (some (.int .i64 0),1,8):=by kernel_rfl
theorem blk_frozen' {w : World} {N : Nat} {cs : Array Value} {T : TypeId} (h : w.heap[N]? = some (.cells cs T)) (o : Nat) : w.frozen? ⟨N,o,none⟩ = false:=by simp [World.frozen?,h]
theorem blk_setCell {w : World} {g i : Nat} {cs : Array Value} {T : TypeId} {fz : Nat × Nat} (h : w.heap[g]? = some (.cells cs T fz)) (v : Value) : (w.setCell ⟨g,i,none⟩ v).heap[g]? = some (.cells (cs.setIfInBounds i v) T fz):=by
 simp [World.setCell,Array.getElem?_modify,h]
structure Chg (lo hi : Nat) (w w' : World) : Prop where
 os : w'.os = w.os
 tape : w'.tape = w.tape
 output : w'.output = w.output
 size : w.heap.size <= w'.heap.size
 block : ∀ i,i < w.heap.size -> ¬ (lo <= i /\ i < hi) -> w'.heap[i]? = w.heap[i]?
theorem Chg.refl (lo hi : Nat) (w : World) : Chg lo hi w w:=⟨rfl,rfl,rfl,Nat.le_refl _,λ _ _ _ => rfl⟩
theorem Chg.setCell {lo hi : Nat} {a b : World} (h : Chg lo hi a b) {p : Addr} (h1 : lo <= p.block) (h2 : p.block < hi) (v : Value) : Chg lo hi a (b.setCell p v):=
 ⟨h.os,h.tape,h.output,by simpa [World.setCell] using h.size,λ i hi hne => (Below.heap_setCell b p v i (by omega)).trans (h.block i hi hne)⟩
theorem Chg.below {lo hi B : Nat} {a b : World} (h : Chg lo hi a b) (hB : B <= lo) (h2 : B <= a.heap.size) : Below B a b:=⟨h.os,h.tape,h.output,h.size,λ i hi => h.block i (by omega) (by omega)⟩
theorem Below.chg {w a b : World} {lo hi : Nat} (h : Below w.heap.size w a) (k : Chg lo hi a b) (hlo : w.heap.size <= lo) : Below w.heap.size w b:=h.trans (k.below hlo h.size)
theorem Slc.chg {w w' : World} {lo hi l' h' s n c : Nat} {A : Option Addr} {xs : List Value} (h : Slc w lo hi s A n c xs) (k : Chg l' h' w w') (hd : hi <= l' \/ h' <= lo) : Slc w' lo hi s A n c xs:=
 h.keep k.size λ b h1 h2 h3 => k.block b h3 (by omega)
structure Own (w : World) (lo hi : Nat) (A : Option Addr) (n c : Nat) (xs : List Int) : Prop where
 slc : Slc w lo hi 1 A n c (ints xs)
 blk : 0 < n -> ∃ b cs,A = some ⟨b,0,none⟩ /\ w.heap[b]? = some (.cells cs 3) /\ n <= cs.size
end Go.Proofs.YtkfafknliihabaaDoor
namespace Go.Proofs.YtkfafknliihabaaDoor
open Go.RowKit
structure OwnV (E s : Nat) (w : World) (lo hi : Nat) (A : Option Addr) (n c : Nat) (xs : List Value) : Prop where
 slc : Slc w lo hi s A n c xs
 blk : 0 < n -> ∃ b cs,A = some ⟨b,0,none⟩ /\ w.heap[b]? = some (.cells cs E) /\ n * s <= cs.size
section
variable {E s : Nat} {w w' : World} {lo hi n c : Nat} {A : Option Addr} {xs : List Value}
theorem OwnV.keep (h : OwnV E s w lo hi A n c xs) (hs : w.heap.size <= w'.heap.size) (k : ∀ b,lo <= b -> b < hi -> b < w.heap.size -> w'.heap[b]? = w.heap[b]?) : OwnV E s w' lo hi A n c xs:=
 ⟨h.slc.keep hs k,λ hn => by
  obtain ⟨b,cs,e,hb,hc⟩:=h.blk hn
  obtain ⟨b',off,e',h1,h2,h3,_⟩:=h.slc.at_ hn
  rw [e] at e'; injection e' with e'; injection e' with e1 e2 e3; subst e1
  exact ⟨b,cs,e,(k b h1 h2 h3).trans hb,hc⟩⟩
theorem OwnV.wide {lo' hi' : Nat} (h : OwnV E s w lo hi A n c xs) (h1 : lo' <= lo) (h2 : hi <= hi') : OwnV E s w lo' hi' A n c xs:=⟨h.slc.wide h1 h2,h.blk⟩
theorem OwnV.nil (w : World) (lo hi : Nat) : OwnV E s w lo hi none 0 0 []:=⟨⟨by simp,Nat.le_refl _,Nat.zero_le _,λ h => absurd h (by omega)⟩,λ h => absurd h (by omega)⟩
theorem OwnV.empty (w : World) (lo hi : Nat) (A : Option Addr) : OwnV E s w lo hi A 0 0 []:=⟨⟨by simp,Nat.le_refl _,Nat.zero_le _,λ h => absurd h (by omega)⟩,λ h => absurd h (by omega)⟩
theorem ownV_of_row {base : Nat} {v : Value} (h : w.ownsRow base E s v n xs) (hs : 0 < s) : ∃ A c,v = .slice A n c /\ OwnV E s w base w.heap.size A n c xs:=by
 obtain ⟨hl,h | ⟨g,cap,cur,rfl,hb,hg,hn,hc,hsz,ht⟩⟩:=h
 ·obtain ⟨rfl,rfl⟩:=h
  exact ⟨none,0,rfl,⟨⟨hl,Nat.le_refl _,Nat.zero_le _,λ h => absurd h (by omega)⟩,λ h => absurd h (by omega)⟩⟩
 ·refine ⟨_,cap,rfl,⟨⟨hl,hn,hc,λ h0 => ⟨g,0,rfl,hb,blk_lt hg,blk_lt hg,λ j v hv => ?_⟩⟩,λ h0 => ⟨g,cur,rfl,hg,by rw [hsz]; exact Nat.mul_le_mul_right _ hn⟩⟩⟩
  rw [Nat.zero_add,blk_cell hg]
  rw [<- ht] at hv
  have hj : j < n * s:=by
   rcases Nat.lt_or_ge j (n * s) with h | h
   ·exact h
   ·rw [List.getElem?_eq_none (by rw [List.length_take]; omega)] at hv; cases hv
  rw [List.getElem?_take_of_lt hj] at hv
  simpa using hv
def NewV (E s : Nat) (w : World) (xs : List Value) (e : Ending) (w' : World) : Prop:=
 ∃ A n c,e = .returned (.slice A n c) /\ OwnV E s w' w.heap.size w'.heap.size A n c xs /\ Below w.heap.size w w'
def NewVB (E s : Nat) (w : World) (xs : List Value) (t : Bool) (e : Ending) (w' : World) : Prop:=
 ∃ A n c,e = .returned (.tuple #[.slice A n c,.bool t]) /\ OwnV E s w' w.heap.size w'.heap.size A n c xs /\ Below w.heap.size w w'
theorem Slc.cells (h : Slc w lo hi s A n c xs) {k : Nat} (hk : k < n) : ∃ b off,A = some ⟨b,off,none⟩ /\ lo <= b /\ b < hi /\ b < w.heap.size /\ ∀ f v,xs[k * s + f]? = some v -> w.cell? ⟨b,off + (k * s + f),none⟩ = some v:=by
 obtain ⟨b,off,e,h1,h2,h3,h4⟩:=h.at_ (by omega)
 exact ⟨b,off,e,h1,h2,h3,λ f v hv => h4 _ v hv⟩
end
theorem flat_get {α : Type} (f : α -> List Value) {s : Nat} (hf : ∀ a,(f a).length = s) : ∀ (l : List α) (k i : Nat),i < s -> (l.flatMap f)[k * s + i]? = (l[k]?).bind λ a => (f a)[i]?
 | [],k,i,_ => by simp
 | a :: l,0,i,hi => by
  rw [List.flatMap_cons,Nat.zero_mul,Nat.zero_add,List.getElem?_append_left (by rw [hf]; exact hi)]; rfl
 | a :: l,k + 1,i,hi => by
  rw [List.flatMap_cons,List.getElem?_append_right (by rw [hf,Nat.succ_mul]; omega),hf,show (k + 1) * s + i - s = k * s + i by rw [Nat.succ_mul]; omega,flat_get f hf l k i hi]; rfl
theorem flat_len {α : Type} (f : α -> List Value) {s : Nat} (hf : ∀ a,(f a).length = s) (l : List α) : (l.flatMap f).length = l.length * s:=by
 induction l with
 | nil => simp
 | cons a l ih => rw [List.flatMap_cons,List.length_append,ih,hf,List.length_cons,Nat.succ_mul]; omega
end Go.Proofs.YtkfafknliihabaaDoor
namespace Go.Proofs.YtkfafknliihabaaDoor
open Go.RowKit
theorem row_below {E s : Nat} {W W' : World} {base n : Nat} {v : Value} {xs : List Value} {w0 : World} (h : w0.ownsRow base E s v n xs) (g : W.grownBy W' v.ownBlock) (hb : base <= W.heap.size) : Below base W W':=
 ⟨g.os,g.tape,g.output,g.size,λ i hi => g.block i (by omega) (by
  obtain ⟨_,h | ⟨b,cap,cur,rfl,h1,_⟩⟩:=h
  ·rw [h.1]; simp [Value.ownBlock]
  ·simp [Value.ownBlock]; omega)⟩
theorem row_some {E s : Nat} {w : World} {base n : Nat} {v : Value} {xs : List Value} (h : w.ownsRow base E s v n xs) (hv : ¬ v = .slice none 0 0) : ∃ g c,v = .slice (some ⟨g,0,none⟩) n c:=by
 obtain ⟨_,h | ⟨b,cap,cur,rfl,h1,_⟩⟩:=h
 ·exact absurd h.1 hv
 ·exact ⟨b,cap,rfl⟩
theorem row_empty {E s : Nat} {w : World} {base g : Nat} (hb : base <= g) (hg : w.heap[g]? = some (.cells #[] E)) : w.ownsRow base E s (.slice (some ⟨g,0,none⟩) 0 0) 0 []:=
 ⟨by simp,.inr ⟨g,0,#[],rfl,hb,hg,Nat.le_refl _,Nat.zero_le _,by simp,by simp⟩⟩
theorem row_keep {E s : Nat} {w w' : World} {base n : Nat} {v : Value} {xs : List Value} (h : w.ownsRow base E s v n xs) (hb : ∀ b,b < w.heap.size -> w'.heap[b]? = w.heap[b]?) : w'.ownsRow base E s v n xs:=by
 obtain ⟨hl,h | ⟨g,cap,cur,rfl,h1,hg,h2⟩⟩:=h
 ·exact ⟨hl,.inl h⟩
 ·exact ⟨hl,.inr ⟨g,cap,cur,rfl,h1,(hb g (blk_lt hg)).trans hg,h2⟩⟩
theorem row_below' {E s : Nat} {w w' : World} {base n : Nat} {v : Value} {xs : List Value} (h : w.ownsRow base E s v n xs) (hb : Below w.heap.size w w') : w'.ownsRow base E s v n xs:=row_keep h λ b h => hb.block b h
theorem blk_drew {w : World} {N : Nat} {o : Obj} (h : w.heap[N]? = some o) : w.drew.heap[N]? = some o:=h
theorem below_drew {a w : World} {B : Nat} (h : Below B a w) : Below B a w.drew:=⟨h.os,h.tape,h.output,h.size,h.block⟩
theorem heap_new' (w : World) (o : Obj) {b : Nat} (hb : b = w.heap.size) : (w.alloc o).heap[b]? = some o:=by subst hb; exact heap_alloc_new w o
section
variable {P : Program} (w : World)
theorem run_app (t ty : TypeId) (base : Nat) (e : TypeId) (i : TypeInfo) (z : Value) (size bytes : Nat) (ht : P.underlying t = some (.slice e)) (hi : P.info? e = some i) (hz : i.zero = some z)
  (hsize : i.size = size) (hby : i.bytes = bytes) (hzs : z.cells.size = size) (hsz : 0 < size)
  (v : Value) (n : Nat) (xs : List Value) (hown : w.ownsRow base e size v n xs) (hv : ¬ v = .slice none 0 0)
  (ad : Addr) (m c : Nat) (news : List Value) (hl : news.length = m * size) (hnews : ∀ j u,news[j]? = some u -> w.cell? (ad.add j) = some u) (h1 : ∀ u ∈ news,u.oneCell' = true)
  (h63 : n + m <= maxLen) (hbytes : (n + m) * bytes <= 140737488355328) (hbase : base <= w.heap.size) :
  ∃ g cap w',(Builtin.append_ #[t,t] ty #[v,.slice (some ad) m c]).run P w = .ok (.slice (some ⟨g,0,none⟩) (n + m) cap) w' /\
   w'.ownsRow base e size (.slice (some ⟨g,0,none⟩) (n + m) cap) (n + m) (xs ++ news) /\ w.grownBy w' v.ownBlock /\ Below base w w':=by
 obtain ⟨v',w',hr,h2,h3,h4,h5⟩:=run_append_own_at (P:=P) w base t ty e i z size bytes ht hi hz hsize hby hzs hsz v n xs hown ad m c news hl hnews h1 h63 hbytes hbase
 obtain ⟨g,cap,rfl⟩:=row_some h2 (λ h => hv (h4.1 h).1)
 exact ⟨g,cap,w',hr,h2,h3,row_below hown h3 hbase⟩
theorem wp_app {o : Oper} {a : Act} {K : Act -> World -> Prop} {Q : Exit -> Act -> World -> Prop} (s x : Operand) (t : TypeId)
  (ho : o.op = .call { callee:=.builtin .append,args:=#[s,x],argTypes:=#[t,t] })
  (base : Nat) (e : TypeId) (i : TypeInfo) (z : Value) (size bytes : Nat) (ht : P.underlying t = some (.slice e)) (hi : P.info? e = some i) (hz : i.zero = some z)
  (hsize : i.size = size) (hby : i.bytes = bytes) (hzs : z.cells.size = size) (hsz : 0 < size)
  (v : Value) (n : Nat) (xs : List Value) (hs : a.eval s = v) (hown : w.ownsRow base e size v n xs) (hv : ¬ v = .slice none 0 0)
  (ad : Addr) (m c : Nat) (news : List Value) (hx : a.eval x = .slice (some ad) m c) (hl : news.length = m * size) (hnews : ∀ j u,news[j]? = some u -> w.cell? (ad.add j) = some u) (h1 : ∀ u ∈ news,u.oneCell' = true)
  (h63 : n + m <= maxLen) (hbytes : (n + m) * bytes <= 140737488355328) (hbase : base <= w.heap.size)
  (h : ∀ g cap w',w'.ownsRow base e size (.slice (some ⟨g,0,none⟩) (n + m) cap) (n + m) (xs ++ news) -> w.grownBy w' v.ownBlock -> Below base w w' -> K (a.put o.dst (.slice (some ⟨g,0,none⟩) (n + m) cap)) w') : o.wp P a w K Q:=by
 obtain ⟨g,cap,w',hr,h2,h3,h4⟩:=run_app (P:=P) w t o.type base e i z size bytes ht hi hz hsize hby hzs hsz v n xs hown hv ad m c news hl hnews h1 h63 hbytes hbase
 unfold Oper.wp execOp
 simp only [ho,resolve,invoke,builtin,Sem.run_bind,Sem.run_pure,Result.andThen_ok,List.map_toArray,List.map_cons,List.map_nil,hs,hx,hr]
 exact h g cap w' h2 h3 h4
theorem wpList_app {ops : Array Oper} {rest : List Oper} {o : Oper} {a : Act} {Q : Exit -> Act -> World -> Prop} (hgd : o.guard = none) (s x : Operand) (t : TypeId)
  (ho : o.op = .call { callee:=.builtin .append,args:=#[s,x],argTypes:=#[t,t] })
  (base : Nat) (e : TypeId) (i : TypeInfo) (z : Value) (size bytes : Nat) (ht : P.underlying t = some (.slice e)) (hi : P.info? e = some i) (hz : i.zero = some z)
  (hsize : i.size = size) (hby : i.bytes = bytes) (hzs : z.cells.size = size) (hsz : 0 < size)
  (v : Value) (n : Nat) (xs : List Value) (hs : a.eval s = v) (hown : w.ownsRow base e size v n xs) (hv : ¬ v = .slice none 0 0)
  (ad : Addr) (m c : Nat) (news : List Value) (hx : a.eval x = .slice (some ad) m c) (hl : news.length = m * size) (hnews : ∀ j u,news[j]? = some u -> w.cell? (ad.add j) = some u) (h1 : ∀ u ∈ news,u.oneCell' = true)
  (h63 : n + m <= maxLen) (hbytes : (n + m) * bytes <= 140737488355328) (hbase : base <= w.heap.size)
  (h : ∀ g cap w',w'.ownsRow base e size (.slice (some ⟨g,0,none⟩) (n + m) cap) (n + m) (xs ++ news) -> w.grownBy w' v.ownBlock -> Below base w w' -> wpList P ops Q rest (a.put o.dst (.slice (some ⟨g,0,none⟩) (n + m) cap)) w') : wpList P ops Q (o :: rest) a w:=
 wpList_plain hgd λ _ hK => wp_app w s x t ho base e i z size bytes ht hi hz hsize hby hzs hsz v n xs hs hown hv ad m c news hx hl hnews h1 h63 hbytes hbase λ g cap w' h2 h3 h4 => hK _ _ (h g cap w' h2 h3 h4)
theorem step_app {ops : Array Oper} {o : Oper} {a : Act} {K : Act -> World -> Prop} {Q : Exit -> Act -> World -> Prop} {EE : Prop} (hgd : o.guard = none) (s x : Operand) (t : TypeId)
  (ho : o.op = .call { callee:=.builtin .append,args:=#[s,x],argTypes:=#[t,t] })
  (base : Nat) (e : TypeId) (i : TypeInfo) (z : Value) (size bytes : Nat) (ht : P.underlying t = some (.slice e)) (hi : P.info? e = some i) (hz : i.zero = some z)
  (hsize : i.size = size) (hby : i.bytes = bytes) (hzs : z.cells.size = size) (hsz : 0 < size)
  (v : Value) (n : Nat) (xs : List Value) (hs : a.eval s = v) (hown : w.ownsRow base e size v n xs) (hv : ¬ v = .slice none 0 0)
  (ad : Addr) (m c : Nat) (news : List Value) (hx : a.eval x = .slice (some ad) m c) (hl : news.length = m * size) (hnews : ∀ j u,news[j]? = some u -> w.cell? (ad.add j) = some u) (h1 : ∀ u ∈ news,u.oneCell' = true)
  (h63 : n + m <= maxLen) (hbytes : (n + m) * bytes <= 140737488355328) (hbase : base <= w.heap.size)
  (h : ∀ g cap w',w'.ownsRow base e size (.slice (some ⟨g,0,none⟩) (n + m) cap) (n + m) (xs ++ news) -> w.grownBy w' v.ownBlock -> Below base w w' -> K (a.put o.dst (.slice (some ⟨g,0,none⟩) (n + m) cap)) w') :
  if Region.wanted o (yielded ops a.tmps) = true then Oper.wp P o a w K Q else EE:=by
 have hw : Region.wanted o (yielded ops a.tmps) = true:=by simp [Region.wanted,hgd]
 rw [if_pos hw]
 exact wp_app w s x t ho base e i z size bytes ht hi hz hsize hby hzs hsz v n xs hs hown hv ad m c news hx hl hnews h1 h63 hbytes hbase h
end
theorem Slc.news {w w' : World} {lo n c : Nat} {b off : Nat} {xs : List Int} (h : Slc w lo w.heap.size 1 (some ⟨b,off,none⟩) n c (ints xs)) (hb : Below w.heap.size w w') : ∀ j u,(ints xs)[j]? = some u -> w'.cell? ((⟨b,off,none⟩ : Addr).add j) = some u:=by
 intro j u hu
 have hn : 0 < n:=by have:=h.len; have:=(List.getElem?_eq_some_iff.1 hu).1; omega
 obtain ⟨b',off',e,_,_,h3,h4⟩:=h.at_ hn
 injection e with e; injection e with e1 e2; subst e1 e2
 rw [Addr.add_lit]
 exact (World.cell?_of_block (hb.block b h3)).trans (h4 j u hu)
theorem ints_one (xs : List Int) : ∀ u ∈ ints xs,u.oneCell' = true:=by
 intro u hu; obtain ⟨x,_,rfl⟩:=List.mem_map.1 hu; rfl
theorem row_slc {E s : Nat} {w : World} {base n c : Nat} {A : Option Addr} {xs : List Value} (h : w.ownsRow base E s (.slice A n c) n xs) (hs : 0 < s) : Slc w base w.heap.size s A n c xs:=by
 obtain ⟨A',c',e,o⟩:=ownV_of_row h hs
 injection e with e1 e2 e3; subst e1 e3; exact o.slc
end Go.Proofs.YtkfafknliihabaaDoor
namespace Go.Proofs.YtkfafknliihabaaDoor
open Go.RowKit
end Go.Proofs.YtkfafknliihabaaDoor
namespace Go.Proofs.YtkfafknliihabaaDoor
open Go.RowKit
theorem bytes_app (a b : Array UInt8) : (⟨a⟩ : ByteArray) ++ ⟨b⟩ = ⟨a ++ b⟩:=by
 apply ByteArray.ext; simp [ByteArray.data_append]
theorem dec_len {k : Nat} (hk : k <= 100000000) : (Lib.decDigits k).length <= 20:=by
 rw [Lib.decDigits_length]; exact Lib.nDigits_le20 k (by omega)
theorem cv1 (w : World) (x : Nat) (hx : x <= 255) : (convert 22 9 (.slice (some ⟨w.heap.size,0,none⟩) 1 1)).run Tryd.prog (w.alloc (.cells #[.int .u8 (x : Int)] 5)) = .ok (.string ⟨[UInt8.ofNat x].toArray⟩) (w.alloc (.cells #[.int .u8 (x : Int)] 5)):=
 run_convert_bytes_back (P:=Tryd.prog) _ 22 9 5 ⟨w.heap.size,0,none⟩ 1 [UInt8.ofNat x] Tryd.underlying22 Tryd.underlying5 Tryd.underlying9 (λ j hj => by
  obtain rfl : j = 0:=by simp at hj; omega
  simp [Addr.add]
  omega)
end Go.Proofs.YtkfafknliihabaaDoor
namespace Go.Proofs.YtkfafknliihabaaDoor
open Go.Joins Go.ChangeShapes Go.WideShapes Go.RowKit Go.Deep
section
variable {H : Type} {enc : TypeId × Value -> H} {P : Program} {w : World} {base : Nat} {held : Bool}
theorem add_plain (b off j : Nat) : (Addr.mk b off none).add j = ⟨b,off + j,none⟩:=by unfold Addr.add; split <;> simp_all
end
end Go.Proofs.YtkfafknliihabaaDoor
namespace Go.Proofs.YtkfafknliihabaaDoor
open Go.RowKit
theorem gb_setCell {w : World} (a : Addr) (v : Value) : w.grownBy (w.setCell a v) (some a.block):=
 ⟨rfl,rfl,rfl,by simp [World.setCell],λ i hi hne => Below.heap_setCell w a v i (λ e => hne (by rw [e]))⟩
theorem gb_drewN {a w : World} {row : Option Nat} (h : a.grownBy w row) (n : Nat) : a.grownBy (w.drewN n) row:=⟨h.os,h.tape,h.output,h.size,h.block⟩
theorem gb_trans {a b c : World} {row : Option Nat} (h : a.grownBy b row) (k : b.grownBy c row) : a.grownBy c row:=
 ⟨k.os.trans h.os,k.tape.trans h.tape,k.output.trans h.output,Nat.le_trans h.size k.size,λ i hi hne => (k.block i (Nat.lt_of_lt_of_le hi h.size) hne).trans (h.block i hi hne)⟩
theorem gb_below {a w : World} (h : Below a.heap.size a w) (row : Option Nat) : a.grownBy w row:=⟨h.os,h.tape,h.output,h.size,λ i hi _ => h.block i hi⟩
theorem below_of_gb {B g : Nat} {a w : World} (h : a.grownBy w (some g)) (hB : B <= g) (hg : B <= a.heap.size) : Below B a w:=
 ⟨h.os,h.tape,h.output,h.size,λ i hi => h.block i (Nat.lt_of_lt_of_le hi hg) (by simp; omega)⟩
structure Bytes (w : World) (g : Nat) (A : Option Addr) (n : Nat) : Prop where
 le : n <= 2000
 at_ : 0 < n -> ∃ b off,A = some ⟨b,off,none⟩ /\ b < g /\ ∀ j,j < n -> ∃ v : Int,w.cell? ⟨b,off + j,none⟩ = some (.int .u8 v) /\ 0 <= v /\ v <= 255
theorem Bytes.keep {w w' : World} {g n : Nat} {A : Option Addr} (h : Bytes w g A n) (k : ∀ b,b < g -> w'.heap[b]? = w.heap[b]?) : Bytes w' g A n:=
 ⟨h.le,λ hn => by
  obtain ⟨b,off,e,hb,hj⟩:=h.at_ hn
  refine ⟨b,off,e,hb,λ j hjn => ?_⟩
  obtain ⟨v,hv,h0⟩:=hj j hjn
  exact ⟨v,(World.cell?_of_block (k b hb)).trans hv,h0⟩⟩
structure RdX (w : World) (g : Nat) (A : Option Addr) (n c p : Nat) : Prop where
 blk : w.heap[g]? = some (.cells #[.slice A n c,.int .i64 (p : Int)] 84)
 bytes : Bytes w g A n
 lt : p < 1000000000
def Drew (w : World) (g : Nat) (A : Option Addr) (n c p d : Nat) (K : Int -> Prop) (e : Ending) (w' : World) : Prop:=
 ∃ r : Int,e = .returned (.int .i64 r) /\ K r /\ w'.heap[g]? = some (.cells #[.slice A n c,.int .i64 ((p + d : Nat) : Int)] 84) /\ w.grownBy w' (some g)
set_option maxHeartbeats 2000000 in
theorem pick_zero (g p n c : Nat) (A : Option Addr) (m : Int) (w : World) (h : RdX w g A n c p) (hm : m < 1 \/ n = 0) :
  Calls Tryd.prog 44 #[.pointer (some ⟨g,0,none⟩),.int .i64 m] w (Drew w g A n c p 1 λ r => r = 0):=by
 have hc:=blk_cell h.blk
 have hf : ∀ o,w.frozen? ⟨g,o,none⟩ = false:=λ o => by simp [World.frozen?,h.blk]
 have hp:=h.lt
 have hb:=h.blk
 have hn:=h.bytes.le
 have HB:=Lib.hid hb
 clear h hb
 by_cases hm1 : m < 1
 ·clear hm
  go_enter Tryd.func44, Tryd.ntmps44
  go_wp2
  go_ret
  exact ⟨0,rfl,rfl,(blk_setCell HB.out _).trans (by simp),gb_setCell _ _⟩
 ·have hn0 : n = 0:=by rcases hm with h | h; exact absurd h hm1; exact h
  subst hn0
  clear hm
  go_enter Tryd.func44, Tryd.ntmps44
  go_wp2
  go_ret
  exact ⟨0,rfl,rfl,(blk_setCell HB.out _).trans (by simp),gb_setCell _ _⟩
set_option maxHeartbeats 2000000 in
theorem pick_byte (g p n c : Nat) (A : Option Addr) (m : Int) (w : World) (h : RdX w g A n c p) (hm : 1 <= m) (hm2 : m <= 1000000) (hpn : p < n) :
  Calls Tryd.prog 44 #[.pointer (some ⟨g,0,none⟩),.int .i64 m] w (Drew w g A n c p 1 λ r => 0 <= r /\ r < m):=by
 have hc:=blk_cell h.blk
 have hf : ∀ o,w.frozen? ⟨g,o,none⟩ = false:=λ o => by simp [World.frozen?,h.blk]
 have hp:=h.lt
 have hb:=h.blk
 have hn:=h.bytes.le
 have HB:=Lib.hid hb
 obtain ⟨b,off,rfl,hbl,hj⟩:=h.bytes.at_ (by omega)
 obtain ⟨v,hv,v0,v1⟩:=hj p hpn
 have hn0 : ((n : Int) == 0) = false:=by simp; omega
 have hm0 : (m == 0) = false:=by simp; omega
 clear h hb hj
 go_enter Tryd.func44, Tryd.ntmps44
 go_wp2
 go_ret
 exact ⟨_,rfl,⟨Int.emod_nonneg _ (by omega),Int.emod_lt_of_pos _ (by omega)⟩,(blk_setCell HB.out _).trans (by simp),gb_setCell _ _⟩
theorem xor_nonneg (x y : Int) (hx : 0 <= x) (hx2 : x < 9223372036854775808) (hy : 0 <= y) (hy2 : y < 9223372036854775808) : 0 <= bits .xor .i64 x y:=by
 obtain ⟨a,rfl⟩:=Int.eq_ofNat_of_zero_le hx
 obtain ⟨b,rfl⟩:=Int.eq_ofNat_of_zero_le hy
 have ha : a < 9223372036854775808:=by omega
 have hb : b < 9223372036854775808:=by omega
 have e : ∀ z : Nat,z < 9223372036854775808 -> (BitVec.ofInt 64 (z : Int)).toNat = z:=λ z hz => by
  rw [BitVec.ofInt_natCast,BitVec.toNat_ofNat]; exact Nat.mod_eq_of_lt (by omega)
 have hlt : a ^^^ b < 2 ^ 63:=Nat.xor_lt_two_pow (by omega) (by omega)
 show 0 <= IntKind.i64.wrap ((BitVec.ofInt 64 (a : Int) ^^^ BitVec.ofInt 64 (b : Int)).toNat : Int)
 rw [BitVec.toNat_xor,e a ha,e b hb,IntKind.wrap_i64]
 omega
set_option maxHeartbeats 4000000 in
theorem pick_mix (g p n c : Nat) (A : Option Addr) (m : Int) (w : World) (h : RdX w g A n c p) (hm : 1 <= m) (hm2 : m <= 1000000) (hpn : ¬ p < n) (h0 : 0 < n) :
  Calls Tryd.prog 44 #[.pointer (some ⟨g,0,none⟩),.int .i64 m] w (Drew w g A n c p 1 λ r => 0 <= r /\ r < m):=by
 have hc:=blk_cell h.blk
 have hf : ∀ o,w.frozen? ⟨g,o,none⟩ = false:=λ o => by simp [World.frozen?,h.blk]
 have hp:=h.lt
 have hb:=h.blk
 have hn:=h.bytes.le
 have HB:=Lib.hid hb
 obtain ⟨b,off,rfl,hbl,hj⟩:=h.bytes.at_ h0
 have hnz : (0 : Int) < n:=by omega
 have i1 : (0 : Int) <= (p : Int) % n:=Int.emod_nonneg _ (by omega)
 have i2 : (p : Int) % n < n:=Int.emod_lt_of_pos _ hnz
 have i3 : (0 : Int) <= ((p : Int) * 7 + 3) % n:=Int.emod_nonneg _ (by omega)
 have i4 : ((p : Int) * 7 + 3) % n < n:=Int.emod_lt_of_pos _ hnz
 have q0 : (0 : Int) <= (p : Int) / n:=Int.ediv_nonneg (by omega) (by omega)
 have q1 : (p : Int) / n <= 1000000000:=Int.le_trans (Int.ediv_le_self _ (by omega)) (by omega)
 obtain ⟨v,hv,v0,v1⟩:=hj (p % n) (Nat.mod_lt _ h0)
 obtain ⟨u,hu,u0,u1⟩:=hj ((p * 7 + 3) % n) (Nat.mod_lt _ h0)
 have hn0 : ((n : Int) == 0) = false:=by simp; omega
 have hm0 : (m == 0) = false:=by simp; omega
 clear h hb hj
 go_enter Tryd.func44, Tryd.ntmps44
 go_wp2
 go_quiet (fail)
 go_wp2
 go_ret
 have hx:=xor_nonneg (v * 131 + u * 1117 + ↑p * 29 + ↑p / ↑n * 53) ((v * 131 + u * 1117 + ↑p * 29 + ↑p / ↑n * 53) / 64) (by omega) (by omega) (by omega) (by omega)
 exact ⟨_,rfl,⟨Int.tmod_nonneg _ hx,Int.tmod_lt_of_pos _ (by omega)⟩,(blk_setCell HB.out _).trans (by simp),gb_drewN (gb_setCell _ _) _⟩
theorem Drew.mono {w w' : World} {g n c p d : Nat} {A : Option Addr} {K K' : Int -> Prop} {e : Ending} (h : Drew w g A n c p d K e w') (hk : ∀ r,K r -> K' r) : Drew w g A n c p d K' e w':=
 let ⟨r,he,hr,hb,hg⟩:=h; ⟨r,he,hk r hr,hb,hg⟩
theorem pick_anyX (g p n c : Nat) (A : Option Addr) (m : Int) (w : World) (h : RdX w g A n c p) (hm : 1 <= m) (hm2 : m <= 1000000) :
  Calls Tryd.prog 44 #[.pointer (some ⟨g,0,none⟩),.int .i64 m] w (Drew w g A n c p 1 λ r => 0 <= r /\ r < m):=by
 by_cases h0 : n = 0
 ·exact (pick_zero g p n c A m w h (.inr h0)).mono λ _ _ hd => hd.mono λ r hr => by omega
 ·by_cases hp : p < n
  ·exact pick_byte g p n c A m w h hm hm2 hp
  ·exact pick_mix g p n c A m w h hm hm2 hp (by omega)
theorem RdX.next {w w' : World} {g n c p d : Nat} {A : Option Addr} (h : RdX w g A n c p) (hb : w'.heap[g]? = some (.cells #[.slice A n c,.int .i64 ((p + d : Nat) : Int)] 84)) (hg : w.grownBy w' (some g)) (hp : p + d < 1000000000) : RdX w' g A n c (p + d):=
 ⟨hb,h.bytes.keep λ b hl => hg.block b (Nat.lt_trans hl (blk_lt h.blk)) (by simp; omega),hp⟩
theorem gb_cell {w w' : World} {g b o : Nat} (h : w.grownBy w' (some g)) (hb : b < w.heap.size) (hne : b ≠ g) : w'.cell? ⟨b,o,none⟩ = w.cell? ⟨b,o,none⟩:=
 World.cell?_of_block (h.block b hb (by simp; exact hne))
theorem gb_al {a w : World} {row : Option Nat} (h : a.grownBy w row) (o : Obj) : a.grownBy (w.alloc o) row:=
 ⟨h.os,h.tape,h.output,Nat.le_trans h.size (by simp),λ i hi hne => (Below.heap_alloc w o i (Nat.lt_of_lt_of_le hi h.size)).trans (h.block i hi hne)⟩
theorem blk_grown {W w1 : World} {N g : Nat} {o : Obj} (hb : W.grownBy w1 (some g)) (hN : W.heap[N]? = some o) (hne : N ≠ g) : w1.heap[N]? = some o /\ N < w1.heap.size:=
 ⟨(hb.block N (blk_lt hN) (by simp; exact hne)).trans hN,Nat.lt_of_lt_of_le (blk_lt hN) hb.size⟩
def Rd (w : World) (g : Nat) (A : Option Addr) (n c q : Nat) : Prop:=∃ p,p <= q /\ RdX w g A n c p
theorem Rd.mono {w : World} {g n c q q' : Nat} {A : Option Addr} (h : Rd w g A n c q) (hq : q <= q') : Rd w g A n c q':=let ⟨p,hp,hx⟩:=h; ⟨p,by omega,hx⟩
theorem Rd.keep {w w' : World} {g n c q : Nat} {A : Option Addr} (h : Rd w g A n c q) (k : ∀ b,b <= g -> w'.heap[b]? = w.heap[b]?) : Rd w' g A n c q:=
 let ⟨p,hp,hx⟩:=h; ⟨p,hp,(k g (Nat.le_refl _)).trans hx.blk,hx.bytes.keep λ b hb => k b (by omega),hx.lt⟩
theorem Rd.gblt {w : World} {g n c q : Nat} {A : Option Addr} (h : Rd w g A n c q) : g < w.heap.size:=let ⟨_,_,hx⟩:=h; blk_lt hx.blk
theorem Rd.alloc {w : World} {g n c q : Nat} {A : Option Addr} (h : Rd w g A n c q) (o : Obj) : Rd (w.alloc o) g A n c q:=
 h.keep λ b hb => Below.heap_alloc w o b (Nat.lt_of_le_of_lt hb h.gblt)
theorem Rd.setCell {w : World} {g n c q : Nat} {A : Option Addr} (h : Rd w g A n c q) {a : Addr} (ha : g < a.block) (v : Value) : Rd (w.setCell a v) g A n c q:=
 h.keep λ b hb => Below.heap_setCell w a v b (by omega)
theorem Rd.below {w w' : World} {g n c q : Nat} {A : Option Addr} (h : Rd w g A n c q) (hb : Below w.heap.size w w') : Rd w' g A n c q:=
 h.keep λ b hl => hb.block b (Nat.lt_of_le_of_lt hl h.gblt)
theorem gb_set {a w : World} {row : Option Nat} (h : a.grownBy w row) {p : Addr} (hp : a.heap.size <= p.block) (v : Value) : a.grownBy (w.setCell p v) row:=
 ⟨h.os,h.tape,h.output,by simpa [World.setCell] using h.size,λ i hi hne => (Below.heap_setCell w p v i (by omega)).trans (h.block i hi hne)⟩
theorem blk_frozen {w : World} {N : Nat} {cs : Array Value} {T : TypeId} (h : w.heap[N]? = some (.cells cs T)) (o : Nat) : w.frozen? ⟨N,o,none⟩ = false:=by simp [World.frozen?,h]
def Got (w : World) (g : Nat) (A : Option Addr) (n c q : Nat) (K : Int -> Prop) (e : Ending) (w' : World) : Prop:=
 ∃ r : Int,e = .returned (.int .i64 r) /\ K r /\ Rd w' g A n c q /\ w.grownBy w' (some g)
theorem got_of {w w' : World} {g n c p q : Nat} {A : Option Addr} {K : Int -> Prop} {e : Ending} (hx : RdX w g A n c p) (hp : p <= q) (hq : q + 1 < 1000000000) (h : Drew w g A n c p 1 K e w') : Got w g A n c (q + 1) K e w':=by
 obtain ⟨r,he,hr,hb,hg⟩:=h
 exact ⟨r,he,hr,⟨p + 1,by omega,hx.next hb hg (by omega)⟩,hg⟩
theorem pick_any (g q n c : Nat) (A : Option Addr) (m : Int) (w : World) (h : Rd w g A n c q) (hq : q + 1 < 1000000000) (hm : 1 <= m) (hm2 : m <= 1000000) :
  Calls Tryd.prog 44 #[.pointer (some ⟨g,0,none⟩),.int .i64 m] w (Got w g A n c (q + 1) λ r => 0 <= r /\ r < m):=by
 obtain ⟨p,hp,hx⟩:=h
 exact (pick_anyX g p n c A m w hx hm hm2).mono λ _ _ hd => got_of hx hp hq hd
set_option maxHeartbeats 2000000 in
theorem num_any (g q n c l lo k kc : Nat) (A : Option Addr) (w : World) (h : Rd w g A n c q) (hq : q + 1 < 1000000000) (hk : 0 < k) (hk2 : k <= 1000000) (hl : l < w.heap.size) (hlg : l ≠ g)
  (hc : ∀ j,j < k -> ∃ v : Int,w.cell? ⟨l,lo + j,none⟩ = some (.int .i64 v)) :
  Calls Tryd.prog 45 #[.pointer (some ⟨g,0,none⟩),.slice (some ⟨l,lo,none⟩) k kc] w (Got w g A n c (q + 1) λ _ => True):=by
 have H:=Lib.hid hc
 clear hc
 go_enter Tryd.func45, Tryd.ntmps45
 go_wp2_with fail
 refine (pick_any g q n c A _ _ h hq (by omega) (by omega)).mono ?_
 rintro e w1 ⟨r,rfl,⟨r0,r1⟩,hr,hg⟩
 obtain ⟨v,hv⟩:=H.out r.toNat (by omega)
 have hv1:=(gb_cell hg hl hlg).trans hv
 clear hv
 go_wp2
 go_ret
 exact ⟨v,rfl,trivial,hr,hg⟩
theorem cells_of_blk {w : World} {l : Nat} {cs : Array Value} {T : TypeId} {fz : Nat × Nat} (h : w.heap[l]? = some (.cells cs T fz)) (k : Nat) (hk : ∀ j,j < k -> ∃ v : Int,cs[j]? = some (.int .i64 v)) :
  ∀ j,j < k -> ∃ v : Int,w.cell? ⟨l,0 + j,none⟩ = some (.int .i64 v):=λ j hj => by
 obtain ⟨v,hv⟩:=hk j hj
 exact ⟨v,by rw [Nat.zero_add,blk_cell h,hv]⟩
end Go.Proofs.YtkfafknliihabaaDoor
namespace Go.Proofs.YtkfafknliihabaaDoor
open Go.RowKit
structure Code (w : World) (A : Option Addr) (n c : Nat) : Prop where
 le : n <= c
 cap : c <= maxLen
 at_ : 0 < n -> ∃ b off,A = some ⟨b,off,none⟩ /\ b < w.heap.size /\ ∀ j,j < n -> ∃ v : Int,w.cell? ⟨b,off + j,none⟩ = some (.int .u8 v) /\ 0 <= v /\ v <= 255
def Opened (w : World) (e : Ending) (w' : World) : Prop:=∃ g A n c,e = .returned (.pointer (some ⟨g,0,none⟩)) /\ Rd w' g A n c 0 /\ Below w.heap.size w w' /\ w.heap.size <= g
theorem bytes_alloc {w : World} {A : Option Addr} {n c m : Nat} (h : Code w A n c) (hm : m <= n) (hm2 : m <= 2000) (o : Obj) : Bytes (w.alloc o) w.heap.size A m:=
 ⟨hm2,λ h0 => by
  obtain ⟨b,off,e,hb,hj⟩:=h.at_ (by omega)
  refine ⟨b,off,e,hb,λ j hjm => ?_⟩
  obtain ⟨v,hv,h1⟩:=hj j (by omega)
  exact ⟨v,(World.cell?_alloc_lt w o _ hb).trans hv,h1⟩⟩
set_option maxHeartbeats 2000000 in
theorem open_any (A : Option Addr) (n c : Nat) (w : World) (h : Code w A n c) : Calls Tryd.prog 32 #[.slice A n c] w (Opened w):=by
 have hl:=h.le
 have hcm:=h.cap
 unfold maxLen at hcm
 by_cases hn : 2000 < n
 ·obtain ⟨b,off,rfl,hb,hj⟩:=h.at_ (by omega)
  clear hj
  go_enter Tryd.func32, Tryd.ntmps32
  go_wp2
  go_ret
  exact ⟨_,_,2000,c,rfl,⟨0,by omega,heap_alloc_new _ _,bytes_alloc h (by omega) (by omega) _,by omega⟩,below_al (Below.refl _ _) _,Nat.le_refl _⟩
 ·go_enter Tryd.func32, Tryd.ntmps32
  go_wp2
  go_ret
  exact ⟨_,A,n,c,rfl,⟨0,by omega,heap_alloc_new _ _,bytes_alloc h (by omega) (by omega) _,by omega⟩,below_al (Below.refl _ _) _,Nat.le_refl _⟩
end Go.Proofs.YtkfafknliihabaaDoor
namespace Go.Proofs.YtkfafknliihabaaDoor
open Go.Joins Go.ChangeShapes Go.WideShapes Go.RowKit Go.Deep
section
variable {H : Type} {enc : TypeId × Value -> H} {P : Program} {w : World} {base : Nat} {held : Bool}
theorem read_bytes {t e : TypeId} {A : Option Addr} {len cap : Nat} {d : DataW H} {p : List MemPlace} (ht : P.underlying t = some (.slice e)) (he : P.underlying e = some (.int .u8)) (hc : P.cellsOf e = 1)
  (h : DataW.Trod enc P w base (λ _ => true) held t (.slice A len cap) d p) : Code w A len cap:=by
 obtain ⟨fuel,hf⟩:=h
 rcases open_ints ht he hc hf with ⟨hcs,_⟩ | ⟨a,len',cap',zs,hcs,_,hl,hm,hz,_,hcell,hwz⟩
 ·simp [Value.cells] at hcs
  obtain ⟨rfl,rfl,rfl⟩:=hcs
  exact ⟨Nat.le_refl _,Nat.zero_le _,λ h0 => absurd h0 (by omega)⟩
 ·simp [Value.cells] at hcs
  obtain ⟨rfl,rfl,rfl⟩:=hcs
  simp only [if_true] at hz
  refine ⟨hl,hm,λ h0 => ?_⟩
  obtain ⟨b,off,spot⟩:=a
  have h1:=hcell 0 (by omega)
  have hspot : spot = none:=by simpa [Addr.add] using World.cell?_spot h1
  subst hspot
  have hb : b < w.heap.size:=by have:=World.block_lt_of_cell? w _ h1; rw [add_plain] at this; exact this
  refine ⟨b,off,rfl,hb,λ j hj => ?_⟩
  have h2:=hcell j (by omega)
  rw [add_plain] at h2
  have h3:=range_u8 hwz j
  rw [<- List.getD_eq_getElem?_getD] at h3
  exact ⟨_,h2,h3.1,h3.2⟩
end
end Go.Proofs.YtkfafknliihabaaDoor
namespace Go.Proofs.YtkfafknliihabaaDoor
open Go.ChangeShapes Go.WideShapes Go.ChangeAt Go.RowKit
section
variable {P : Program} {w : World} {base : Nat}
theorem slice_block {t e : TypeId} {A : Option Addr} {n c : Nat} {r : Reach} (ht : P.underlying t = some (.slice e)) (h : Value.okWide P w r base t (.slice A n c)) : ∀ a,A = some a -> a.spot = none /\ ∃ cs T fz,w.heap[a.block]? = some (.cells cs T fz):=by
 intro a e
 subst e
 simp only [Value.okWide,ht,Cell.okWide,Cell.ok,World.has] at h
 obtain ⟨_,_,_,hsp,row,cells,hsh,_⟩:=h
 refine ⟨hsp,?_⟩
 unfold World.shape? at hsh
 split at hsh
 ·rename_i cs T fz hb
  exact ⟨cs,T,fz,hb⟩
 ·cases hsh
end
end Go.Proofs.YtkfafknliihabaaDoor
namespace Go.Proofs.YtkfafknliihabaaDoor
open Go.RowKit
structure DeedD where
 act : ByteArray
 a : Int
 b : Int
 deriving DecidableEq
def DeedD.cells (d : DeedD) : List Value:=[.string d.act,.int .i64 d.a,.int .i64 d.b]
def deeds (ds : List DeedD) : List Value:=ds.flatMap DeedD.cells
theorem deeds_len (ds : List DeedD) : (deeds ds).length = ds.length * 3:=flat_len DeedD.cells (s:=3) (λ _ => rfl) ds
theorem deeds_get {ds : List DeedD} {k : Nat} {d : DeedD} (h : ds[k]? = some d) : (deeds ds)[k * 3 + 0]? = some (.string d.act) /\ (deeds ds)[k * 3 + 1]? = some (.int .i64 d.a) /\ (deeds ds)[k * 3 + 2]? = some (.int .i64 d.b):=by
 have e:=λ i hi => flat_get DeedD.cells (s:=3) (λ _ => rfl) ds k i hi
 unfold deeds
 rw [e 0 (by omega),e 1 (by omega),e 2 (by omega),h]
 exact ⟨rfl,rfl,rfl⟩
theorem Slc.deedAt {w : World} {lo hi n c : Nat} {A : Option Addr} {ds : List DeedD} (h : Slc w lo hi 3 A n c (deeds ds)) {k : Nat} (hk : k < n) :
  ∃ b off d,A = some ⟨b,off,none⟩ /\ lo <= b /\ b < hi /\ b < w.heap.size /\ ds[k]? = some d /\ w.cell? ⟨b,off + k * 3,none⟩ = some (.string d.act) /\ w.cell? ⟨b,off + k * 3 + 1,none⟩ = some (.int .i64 d.a) /\ w.cell? ⟨b,off + k * 3 + 2,none⟩ = some (.int .i64 d.b):=by
 obtain ⟨b,off,e,h1,h2,h3,h4⟩:=h.cells hk
 have hl : k < ds.length:=by have:=h.len; rw [deeds_len] at this; omega
 obtain ⟨g0,g1,g2⟩:=deeds_get (List.getElem?_eq_getElem hl)
 exact ⟨b,off,ds[k],e,h1,h2,h3,List.getElem?_eq_getElem hl,h4 0 _ g0,h4 1 _ g1,h4 2 _ g2⟩
theorem Slc.deedLen {w : World} {lo hi n c : Nat} {A : Option Addr} {ds : List DeedD} (h : Slc w lo hi 3 A n c (deeds ds)) : ds.length = n:=by
 have:=h.len; rw [deeds_len] at this; omega
theorem info_deed : (Tryd.prog.info? 34).map (λ i => (i.zero,i.size,i.bytes)) = some (some (.agg #[.string ⟨#[]⟩,.int .i64 0,.int .i64 0]),3,32):=by kernel_rfl
end Go.Proofs.YtkfafknliihabaaDoor
namespace Go.Proofs.YtkfafknliihabaaDoor
open Go.RowKit
section
variable {P : Program} {k : TypeId}
theorem run_equal_chan {d : ChanDir} {e : TypeId} (hk : P.underlying k = some (.chan d e)) (a b : Option Nat) (w : World) : (Op.equal k (.chan a) (.chan b)).run P w = .ok (a == b) w:=by
 unfold Op.equal
 rw [show Op.maxDepth = (Op.maxDepth - 1) + 1 by decide]
 simp [Op.equalIn,run_underlying hk]
end
def EsOf (es : List MapEntry) (ps : List (Nat × Value)) : Prop:=es.map (λ e => (e.key,e.val)) = ps.map (λ p => (Value.chan (some p.1),p.2))
def ChanMap (w : World) (b : Nat) (ps : List (Nat × Value)) : Prop:=∃ es clock,w.heap[b]? = some (.map es clock) /\ EsOf es.toList ps
def lookC (c : Nat) : List (Nat × Value) -> Option Value
 | [] => none
 | p :: ps => if c = p.1 then some p.2 else lookC c ps
def putC (c : Nat) (v : Value) : List (Nat × Value) -> List (Nat × Value)
 | [] => [(c,v)]
 | p :: ps => if c = p.1 then (p.1,v) :: ps else p :: putC c v ps
def findC (c : Nat) : List (Nat × Value) -> Nat -> Option (Nat × Value)
 | [],_ => none
 | p :: ps,i => if c = p.1 then some (i,p.2) else findC c ps (i + 1)
theorem EsOf.cons_inv {e : MapEntry} {es : List MapEntry} {ps : List (Nat × Value)} (h : EsOf (e :: es) ps) : ∃ p qs,ps = p :: qs /\ e.key = .chan (some p.1) /\ e.val = p.2 /\ EsOf es qs:=by
 unfold EsOf at h
 cases ps with
 | nil => cases h
 | cons p qs =>
  rw [List.map_cons,List.map_cons] at h
  injection h with h1 h2
  injection h1 with h3 h4
  exact ⟨p,qs,rfl,h3,h4,h2⟩
theorem EsOf.nil_inv {ps : List (Nat × Value)} (h : EsOf [] ps) : ps = []:=by
 unfold EsOf at h; cases ps with
 | nil => rfl
 | cons p qs => cases h
section
variable {P : Program} {k : TypeId} {d : ChanDir} {e0 : TypeId}
theorem run_findAsking_chan (hk : P.underlying k = some (.chan d e0)) (c : Nat) (w : World) : ∀ (es : List MapEntry) (ps : List (Nat × Value)) (i : Nat),EsOf es ps -> (Instr.findAsking k (.chan (some c)) es i).run P w = .ok (findC c ps i) w
 | [],ps,i,h => by rw [h.nil_inv]; rfl
 | e :: es,ps,i,h => by
  obtain ⟨p,qs,rfl,h1,h2,h3⟩:=h.cons_inv
  have ih:=run_findAsking_chan hk c w es qs (i + 1) h3
  unfold Instr.findAsking
  simp only [Sem.run_bind,h1,run_equal_chan hk,Result.andThen_ok]
  by_cases hc : c = p.1
  ·subst hc; simp [findC,h2]
  ·have : (some c == some p.1) = false:=by rw [beq_eq_false_iff_ne]; intro h; injection h with h; exact hc h
   rw [this]
   simp only [Bool.false_eq_true,if_false,findC,if_neg hc]
   exact ih
theorem run_findKey_chan (hk : P.underlying k = some (.chan d e0)) (c : Nat) (w : World) (es : List MapEntry) (ps : List (Nat × Value)) (h : EsOf es ps) : (Instr.findKey k (.chan (some c)) es).run P w = .ok (findC c ps 0) w:=by
 unfold Instr.findKey
 simp only [Sem.run_bind,run_underlying hk,Result.andThen_ok]
 cases es with
 | nil => rw [h.nil_inv]; rfl
 | cons e es =>
  have : Instr.findNow (.chan d e0) (.chan (some c)) (e :: es) 0 = none:=by
   simp [Instr.findNow,Instr.sameNow]
  rw [this]
  exact run_findAsking_chan hk c w _ _ 0 h
theorem findC_look (c : Nat) : ∀ (ps : List (Nat × Value)) (i : Nat),(findC c ps i).map Prod.snd = lookC c ps
 | [],_ => rfl
 | p :: ps,i => by
  unfold findC lookC
  by_cases h : c = p.1
  ·rw [if_pos h,if_pos h]; rfl
  ·rw [if_neg h,if_neg h]; exact findC_look c ps (i + 1)
theorem run_checkKey_chan (hk : P.underlying k = some (.chan d e0)) (b : Bool) (c : Nat) (w : World) : (Instr.checkKey b 10000 k (.chan (some c))).run P w = .ok () w:=by
 rw [show (10000 : Nat) = 9999 + 1 by decide]
 unfold Instr.checkKey
 simp [run_underlying hk]
theorem run_lookup_chan {t e : TypeId} (ht : P.underlying t = some (.map k e)) (hk : P.underlying k = some (.chan d e0)) {z : Value} {w : World} (hz : (zeroValue e).run P w = .ok z w) {b c : Nat} {ps : List (Nat × Value)} (h : ChanMap w b ps) (ok : Bool) :
  (Instr.lookup t (.map (some b)) (.chan (some c)) ok).run P w = .ok (if ok then .tuple #[(lookC c ps).getD z,.bool (lookC c ps).isSome] else (lookC c ps).getD z) w:=by
 obtain ⟨es,clock,hb,he⟩:=h
 unfold Instr.lookup
 have hf:=findC_look c ps 0
 have hg : (getObj b).run P w = .ok (.map es clock) w:=by first | exact run_getObj hb | (show Sem.run P (Sem.getObj b Sem.pure) w = _; unfold Sem.run; rw [hb]; rfl) | (simp [getObj,Sem.run,hb])
 simp only [Sem.run_bind,run_underlying ht,Result.andThen_ok,hg,Sem.run_pure,run_checkKey_chan hk,run_findKey_chan hk c w _ _ he]
 cases hq : findC c ps 0 with
 | none =>
  rw [hq] at hf
  have hf' : lookC c ps = none:=by simpa using hf.symm
  simp [hz,hf']
 | some q =>
  rw [hq] at hf
  have hf' : lookC c ps = some q.2:=by simpa using hf.symm
  simp [hf']
end
theorem putC_none {c : Nat} {v : Value} : ∀ {ps : List (Nat × Value)} {i : Nat},findC c ps i = none -> putC c v ps = ps ++ [(c,v)]
 | [],_,_ => rfl
 | p :: ps,i,h => by
  unfold findC at h
  by_cases hc : c = p.1
  ·rw [if_pos hc] at h; cases h
  ·rw [if_neg hc] at h
   unfold putC
   rw [if_neg hc,putC_none h]; rfl
theorem findC_some {c : Nat} {v : Value} : ∀ {es : List MapEntry} {ps : List (Nat × Value)} {i : Nat} {q : Nat × Value},EsOf es ps -> findC c ps i = some q ->
  ∃ j e0,q.1 = i + j /\ es[j]? = some e0 /\ e0.key = .chan (some c) /\ EsOf (es.set j { e0 with key:=.chan (some c),val:=v }) (putC c v ps)
 | [],ps,i,q,h,hq => by rw [h.nil_inv] at hq; cases hq
 | e :: es,ps,i,q,h,hq => by
  obtain ⟨p,qs,rfl,h1,h2,h3⟩:=h.cons_inv
  unfold findC at hq
  by_cases hc : c = p.1
  ·rw [if_pos hc] at hq
   injection hq with hq
   refine ⟨0,e,by rw [<- hq]; rfl,rfl,by rw [h1,hc],?_⟩
   unfold putC
   rw [if_pos hc]
   unfold EsOf at h3 ⊢
   rw [List.set_cons_zero,List.map_cons,List.map_cons,h3,hc]
  ·rw [if_neg hc] at hq
   obtain ⟨j,e0,e1,e2,e3,e4⟩:=findC_some (v:=v) h3 hq
   refine ⟨j + 1,e0,by rw [e1]; omega,e2,e3,?_⟩
   unfold putC
   rw [if_neg hc]
   unfold EsOf at e4 ⊢
   rw [List.set_cons_succ,List.map_cons,List.map_cons,e4,h1,h2]
theorem run_stays_chan {P : Program} (c : Nat) (w : World) : (Instr.keyThatStays (.chan (some c)) (.chan (some c))).run P w = .ok (.chan (some c)) w:=by
 unfold Instr.keyThatStays
 rw [if_pos (by simp [Instr.sameBits])]
 rfl
section
variable {P : Program} {k : TypeId} {d : ChanDir} {e0 : TypeId}
open Go.ChangeMaps in
theorem run_update_chan {t e : TypeId} (ht : P.underlying t = some (.map k e)) (hk : P.underlying k = some (.chan d e0)) {w : World} {b c : Nat} {ps : List (Nat × Value)} (h : ChanMap w b ps) (v : Value) :
  ∃ es' clock',(Instr.mapUpdate t (.map (some b)) (.chan (some c)) v).run P w = .ok () { w with heap:=w.heap.setIfInBounds b (.map es' clock') } /\ ChanMap { w with heap:=w.heap.setIfInBounds b (.map es' clock') } b (putC c v ps):=by
 obtain ⟨es,clock,hb,he⟩:=h
 have hz:=(Array.getElem?_eq_some_iff.1 hb).1
 cases hq : findC c ps 0 with
 | none =>
  refine ⟨es.push ⟨.chan (some c),v,clock⟩,clock + 1,?_,es.push ⟨.chan (some c),v,clock⟩,clock + 1,by simp [hz],?_⟩
  ·simp [Instr.mapUpdate,run_underlying ht,MapKept.run_getObj_map hb,run_checkKey_chan hk,run_findKey_chan hk c w _ _ he,hq,MapKept.run_setObj_map _ hb,Result.andThen]
  ·rw [putC_none hq]
   unfold EsOf at he ⊢
   rw [Array.toList_push,List.map_append,List.map_append,he]; rfl
 | some q =>
  obtain ⟨j,x,e1,e2,e3,e4⟩:=findC_some (v:=v) he hq
  have e1' : q.1 = j:=by omega
  have hj : es[j]? = some x:=by simpa using e2
  refine ⟨es.modify j (λ e' => { e' with key:=.chan (some c),val:=v }),clock,?_,es.modify j (λ e' => { e' with key:=.chan (some c),val:=v }),clock,by simp [hz],?_⟩
  ·simp [Instr.mapUpdate,run_underlying ht,MapKept.run_getObj_map hb,run_checkKey_chan hk,run_findKey_chan hk c w _ _ he,hq,e1',hj,e3,run_stays_chan,MapKept.run_setObj_map _ hb,Result.andThen]
  ·have : (es.modify j (λ e' => { e' with key:=.chan (some c),val:=v })).toList = es.toList.set j { x with key:=.chan (some c),val:=v }:=by
    rw [Array.toList_modify,modify_eq_set _ _ _ _ e2]
   rw [this]; exact e4
theorem wpList_lookup_chan {ops : Array Oper} {rest : List Oper} {o : Oper} {a : Act} {Q : Exit -> Act -> World -> Prop} (w : World) (hg : o.guard = none) (m x : Operand) (t : TypeId) (ok : Bool) (hop : o.op = Op.lookup t m x ok) (e : TypeId)
  (ht : P.underlying t = some (.map k e)) (hk : P.underlying k = some (.chan d e0)) (z : Value) (hz : (zeroValue e).run P w = .ok z w) (b c : Nat) (ps : List (Nat × Value)) (hm : a.eval m = .map (some b)) (hx : a.eval x = .chan (some c)) (h : ChanMap w b ps)
  (hK : wpList P ops Q rest (a.put o.dst (if ok then .tuple #[(lookC c ps).getD z,.bool (lookC c ps).isSome] else (lookC c ps).getD z)) w) : wpList P ops Q (o :: rest) a w:=by
 refine wpList_plain hg λ K' hK' => ?_
 have hrun:=run_lookup_chan ht hk hz h (c:=c) ok
 unfold Oper.wp
 simp [execOp,hop,hm,hx,hrun,Result.andThen]
 cases ok <;> exact hK' _ _ hK
theorem wpList_update_chan {ops : Array Oper} {rest : List Oper} {o : Oper} {a : Act} {Q : Exit -> Act -> World -> Prop} (w : World) (hg : o.guard = none) (m x y : Operand) (t : TypeId) (hop : o.op = Op.mapUpdate t m x y) (e : TypeId)
  (ht : P.underlying t = some (.map k e)) (hk : P.underlying k = some (.chan d e0)) (b c : Nat) (v : Value) (ps : List (Nat × Value)) (hm : a.eval m = .map (some b)) (hx : a.eval x = .chan (some c)) (hy : a.eval y = v) (h : ChanMap w b ps)
  (hK : ∀ w' o',w' = { w with heap:=w.heap.setIfInBounds b o' } -> ChanMap w' b (putC c v ps) -> wpList P ops Q rest (a.put o.dst undef) w') : wpList P ops Q (o :: rest) a w:=by
 refine wpList_plain hg λ K' hK' => ?_
 obtain ⟨es,cl,hrun,hcm⟩:=run_update_chan ht hk h (c:=c) v
 unfold Oper.wp
 simp [execOp,hop,hm,hx,hy,hrun,Result.andThen]
 exact hK' _ _ (hK _ _ rfl hcm)
open Go.ChangeMaps in
theorem run_update_all {t e : TypeId} (ht : P.underlying t = some (.map k e)) (hk : P.underlying k = some (.chan d e0)) {b c : Nat} {es : Array MapEntry} {clock : Nat} {ps : List (Nat × Value)} (he : EsOf es.toList ps) :
  ∃ f : Value -> Obj,(∀ (w : World) (v : Value),w.heap[b]? = some (.map es clock) -> (Instr.mapUpdate t (.map (some b)) (.chan (some c)) v).run P w = .ok () { w with heap:=w.heap.setIfInBounds b (f v) }) /\
   ∀ v,∃ es' clock',f v = .map es' clock' /\ EsOf es'.toList (putC c v ps):=by
 cases hq : findC c ps 0 with
 | none =>
  refine ⟨λ v => .map (es.push ⟨.chan (some c),v,clock⟩) (clock + 1),λ w v hb => ?_,λ v => ⟨_,_,rfl,?_⟩⟩
  ·simp [Instr.mapUpdate,run_underlying ht,MapKept.run_getObj_map hb,run_checkKey_chan hk,run_findKey_chan hk c w _ _ he,hq,MapKept.run_setObj_map _ hb,Result.andThen]
  ·rw [putC_none hq]
   unfold EsOf at he ⊢
   rw [Array.toList_push,List.map_append,List.map_append,he]; rfl
 | some q =>
  obtain ⟨j,x,e1,e2,e3,_⟩:=findC_some (v:=.bool true) he hq
  have e1' : q.1 = j:=by omega
  have hj : es[j]? = some x:=by simpa using e2
  refine ⟨λ v => .map (es.modify j (λ e' => { e' with key:=.chan (some c),val:=v })) clock,λ w v hb => ?_,λ v => ⟨_,_,rfl,?_⟩⟩
  ·simp [Instr.mapUpdate,run_underlying ht,MapKept.run_getObj_map hb,run_checkKey_chan hk,run_findKey_chan hk c w _ _ he,hq,e1',hj,e3,run_stays_chan,MapKept.run_setObj_map _ hb,Result.andThen]
  ·obtain ⟨j',x',f1,f2,f3,f4⟩:=findC_some (v:=v) he hq
   have : j' = j:=by omega
   subst this
   rw [e2] at f2; injection f2 with f2; subst f2
   have : (es.modify j' (λ e' => { e' with key:=.chan (some c),val:=v })).toList = es.toList.set j' { x with key:=.chan (some c),val:=v }:=by
    rw [Array.toList_modify,modify_eq_set _ _ _ _ e2]
   rw [this]; exact f4
end
end Go.Proofs.YtkfafknliihabaaDoor
namespace Go.Proofs.YtkfafknliihabaaDoor
open Go.RowKit Go.Conc
section
variable {P : Program} {ops : Array Oper} {Q : Exit -> Act -> World -> Prop} {a : Act} {w w1 : World} {o : Oper} {rest : List Oper} {v : Value}
theorem stepG_comm_any {b : Frame} {k : List Item} {cs : List Frame} {i : Nat} {r : List Nat} {cases : Array CommCase} {blocking : Bool} {shape : CommShape} {w' : World} (ho : ops[i]? = some o) (hw : Region.wanted o (yielded ops a.tmps) = true)
  (hr : (execOp a.eval o).run P w = .ok (.comm cases blocking shape) w') :
  ∃ es,stepG P true (G (b.at a (.inRegion ops (i :: r) :: k)) cs) w = .comm (G (b.at a (.inRegion ops (i :: r) :: k)) cs) cases blocking shape w' es:=by
 by_cases hk : b.kind = .early
 ·refine ⟨seen P b.fn #[],?_⟩
  rw [stepG_oper ho hw]
  simp [stepG.apply,hr,G,Frame.at,hk,GStep.after]
 ·exact ⟨_,stepG_comm ho hw hk hr⟩
theorem wp_region_comm {id : Nat} (hops : ops.toList = o :: rest)
  (hstep : ∀ (b : Frame) (k : List Item) (cs : List Frame),step P (lone (b.at a (.inRegion ops (0 :: List.range' 1 rest.length) :: k)) cs w) = .next (lone (b.at (a.put o.dst v) (.inRegion ops (List.range' 1 rest.length) :: k)) cs w1))
  (h : wpList P ops Q rest (a.put o.dst v) w1) : (Code.region id ops false).wp P Q a w:=by
 intro b k cs
 have hsz : ops.size = rest.length + 1:=by rw [<- Array.length_toList,hops]; rfl
 have hrest : wpOps P ops Q (List.range' 1 rest.length) (a.put o.dst v) w1:=by
  rw [wpOps_eq_wpList rest 1 (λ j => by rw [<- Array.getElem?_toList,hops,show 1 + j = j + 1 by omega,List.getElem?_cons_succ])]
  exact h
 obtain ⟨e,a',w',hq,harr⟩:=wp_ops _ _ _ hrest b k cs
 refine ⟨e,a',w',hq,.of_steps (.head step_region (.one ?_)) harr⟩
 rw [hsz,List.range_eq_range',List.range'_succ]
 exact hstep b k cs
variable {c cap s r : Nat} {buf : Array Value} {z z' u : Value} {tm closed : Bool} {id : Nat}
theorem finish_comm (b : Frame) (k : List Item) (hops : ops.toList = o :: rest) (v : Value) : (b.at a (.inRegion ops (0 :: List.range' 1 rest.length) :: k)).finish v = b.at (a.put o.dst v) (.inRegion ops (List.range' 1 rest.length) :: k):=by
 have : ops[0]? = some o:=by rw [<- Array.getElem?_toList,hops]; rfl
 rw [Frame.finish_at,this]; rfl
theorem first_op (hops : ops.toList = o :: rest) : ops[0]? = some o:=by rw [<- Array.getElem?_toList,hops]; rfl
theorem wanted_none (hg : o.guard = none) : Region.wanted o (yielded ops a.tmps) = true:=by simp [Region.wanted,hg]
theorem wp_select_recv_buf (hops : ops.toList = o :: rest) (hg : o.guard = none) (hr : (execOp a.eval o).run P w = .ok (.comm #[rcase c z] false .select) w) (hc : w.heap[c]? = some (.chan cap buf closed s r tm)) (hsome : 0 < buf.size)
  (h : wpList P ops Q rest (a.put o.dst (.tuple #[goInt 0,.bool true,buf.getD 0 undef])) (w.setChan c cap (buf.extract 1 buf.size) closed s (r + 1) tm)) : (Code.region id ops false).wp P Q a w:=by
 refine wp_region_comm hops (λ b k cs => ?_) h
 obtain ⟨es,he⟩:=stepG_comm_any (b:=b) (k:=k) (cs:=cs) (i:=0) (r:=List.range' 1 rest.length) (first_op hops) (wanted_none hg) hr
 rw [<- finish_comm b k hops]
 exact step_lone_select_recv_buf he hc hsome
theorem wp_select_recv_shut (hops : ops.toList = o :: rest) (hg : o.guard = none) (hr : (execOp a.eval o).run P w = .ok (.comm #[rcase c z] false .select) w) (hc : w.heap[c]? = some (.chan cap #[] true s r tm))
  (h : wpList P ops Q rest (a.put o.dst (.tuple #[goInt 0,.bool false,z])) w) : (Code.region id ops false).wp P Q a w:=by
 refine wp_region_comm hops (λ b k cs => ?_) h
 obtain ⟨es,he⟩:=stepG_comm_any (b:=b) (k:=k) (cs:=cs) (i:=0) (r:=List.range' 1 rest.length) (first_op hops) (wanted_none hg) hr
 rw [<- finish_comm b k hops]
 exact step_lone_select_recv_shut he hc
theorem wp_select_recv_empty (hops : ops.toList = o :: rest) (hg : o.guard = none) (hr : (execOp a.eval o).run P w = .ok (.comm #[rcase c z] false .select) w) (hc : w.heap[c]? = some (.chan cap #[] false s r tm))
  (h : wpList P ops Q rest (a.put o.dst (.tuple #[goInt (-1),.bool false,z])) w) : (Code.region id ops false).wp P Q a w:=by
 refine wp_region_comm hops (λ b k cs => ?_) h
 obtain ⟨es,he⟩:=stepG_comm_any (b:=b) (k:=k) (cs:=cs) (i:=0) (r:=List.range' 1 rest.length) (first_op hops) (wanted_none hg) hr
 rw [<- finish_comm b k hops]
 exact step_lone_select_default he hc
theorem wp_select_send_room (hops : ops.toList = o :: rest) (hg : o.guard = none) (hr : (execOp a.eval o).run P w = .ok (.comm #[scase c u z'] false .select) w) (hc : w.heap[c]? = some (.chan cap buf false s r tm)) (hroom : buf.size < cap)
  (h : wpList P ops Q rest (a.put o.dst (.tuple #[goInt 0,.bool false])) (w.setChan c cap (buf.push u) false (s + 1) r tm)) : (Code.region id ops false).wp P Q a w:=by
 refine wp_region_comm hops (λ b k cs => ?_) h
 obtain ⟨es,he⟩:=stepG_comm_any (b:=b) (k:=k) (cs:=cs) (i:=0) (r:=List.range' 1 rest.length) (first_op hops) (wanted_none hg) hr
 rw [<- finish_comm b k hops]
 exact step_lone_select_send_room he hc hroom
theorem wp_select_send_full (hops : ops.toList = o :: rest) (hg : o.guard = none) (hr : (execOp a.eval o).run P w = .ok (.comm #[scase c u z'] false .select) w) (hc : w.heap[c]? = some (.chan cap buf false s r tm)) (hfull : cap <= buf.size)
  (h : wpList P ops Q rest (a.put o.dst (.tuple #[goInt (-1),.bool false])) w) : (Code.region id ops false).wp P Q a w:=by
 refine wp_region_comm hops (λ b k cs => ?_) h
 obtain ⟨es,he⟩:=stepG_comm_any (b:=b) (k:=k) (cs:=cs) (i:=0) (r:=List.range' 1 rest.length) (first_op hops) (wanted_none hg) hr
 rw [<- finish_comm b k hops]
 exact step_lone_select_send_full he hc hfull
end
end Go.Proofs.YtkfafknliihabaaDoor
namespace Go.Proofs.YtkfafknliihabaaDoor
def putA : List UInt8:=[112,117,116]
def takeA : List UInt8:=[116,97,107,101]
def endA : List UInt8:=[101,110,100]
def lookA : List UInt8:=[108,111,111,107]
def deedP (lines : Int) (d : DeedD) : Prop:=
 (d.act.toList = putA \/ d.act.toList = takeA \/ d.act.toList = endA \/ d.act.toList = lookA) /\ 0 <= d.a /\ d.a <= lines /\ 0 <= d.b /\ d.b <= 1000 /\ (d.act.toList = putA \/ d.b = 0)
instance (lines : Int) (d : DeedD) : Decidable (deedP lines d):=by unfold deedP; infer_instance
def deedB (lines : Int) (d : DeedD) : Bool:=decide (deedP lines d)
def roomB (x : Int) : Bool:=inB x 0 8
def roomsB (rooms : List Int) : Bool:=decide (1 <= rooms.length /\ rooms.length <= 6) && rooms.all roomB
def deedsB (rooms : List Int) (ds : List DeedD) : Bool:=roomsB rooms && decide (ds.length <= 60) && ds.all (deedB rooms.length)
structure Ln where
 room : Int
 held : List Int
 ended : Bool
 taken : List Int
def tNever : List UInt8:=[110,101,118,101,114]
def tEnded : List UInt8:=[101,110,100,101,100]
def tEmpty : List UInt8:=[101,109,112,116,121]
def tEnd : List UInt8:=[101,110,100]
def tFull : List UInt8:=[102,117,108,108]
def tPut : List UInt8:=[112,117,116]
def tTook (x : Int) : List UInt8:=[116,111,111,107,32] ++ Lib.itoa x
def doneF (l : Ln) (d : DeedD) : Ln × List UInt8:=
 if d.act.toList = lookA then (l,Lib.itoa l.held.length)
 else if d.a = 0 then (l,tNever)
 else match d.act.toList == takeA,l.held with
  | true,x :: xs => ({ l with held:=xs,taken:=l.taken ++ [x] },tTook x)
  | t,h =>
   if l.ended then (l,tEnded)
   else if t then (l,tEmpty)
   else if d.act.toList = endA then ({ l with ended:=true },tEnd)
   else if l.room <= h.length then (l,tFull)
   else ({ l with held:=h ++ [d.b] },tPut)
def openF (rooms : List Int) : List Ln:=⟨0,[],false,[]⟩ :: rooms.map λ r => ⟨r,[],false,[]⟩
def stepF (s : List Ln × List (List UInt8)) (d : DeedD) : List Ln × List (List UInt8):=
 let r:=doneF (s.1.getD d.a.toNat ⟨0,[],false,[]⟩) d
 (s.1.set d.a.toNat r.1,s.2 ++ [r.2])
def runF (rooms : List Int) (ds : List DeedD) : List Ln × List (List UInt8):=ds.foldl stepF (openF rooms,[])
theorem runF_take {rooms : List Int} {ds : List DeedD} {k : Nat} {d : DeedD} (h : ds[k]? = some d) : runF rooms (ds.take (k + 1)) = stepF (runF rooms (ds.take k)) d:=by
 obtain ⟨hk,e⟩:=List.getElem?_eq_some_iff.1 h
 unfold runF
 rw [List.take_succ_eq_append_getElem hk,List.foldl_append,e]; rfl
theorem openF_len (rooms : List Int) : (openF rooms).length = rooms.length + 1:=by simp [openF]
theorem stepF_len (s : List Ln × List (List UInt8)) (d : DeedD) : (stepF s d).1.length = s.1.length:=by simp [stepF]
theorem runF_len (rooms : List Int) (ds : List DeedD) : (runF rooms ds).1.length = rooms.length + 1 /\ (runF rooms ds).2.length = ds.length:=by
 unfold runF
 have : ∀ (ds : List DeedD) (s : List Ln × List (List UInt8)),(ds.foldl stepF s).1.length = s.1.length /\ (ds.foldl stepF s).2.length = s.2.length + ds.length:=by
  intro ds
  induction ds with
  | nil => intro s; simp
  | cons d ds ih =>
   intro s
   rw [List.foldl_cons]
   obtain ⟨h1,h2⟩:=ih (stepF s d)
   refine ⟨by rw [h1,stepF_len],?_⟩
   rw [h2]; simp [stepF]; omega
 obtain ⟨h1,h2⟩:=this ds (openF rooms,[])
 exact ⟨by rw [h1]; exact openF_len rooms,by rw [h2]; simp⟩
theorem deedB_of {lines : Int} {d : DeedD} (h : deedB lines d = true) : deedP lines d:=by simpa [deedB] using h
theorem deedsB_of {rooms : List Int} {ds : List DeedD} (h : deedsB rooms ds = true) : (1 <= rooms.length /\ rooms.length <= 6) /\ (∀ r ∈ rooms,0 <= r /\ r <= 8) /\ ds.length <= 60 /\ ∀ d ∈ ds,deedP rooms.length d:=by
 unfold deedsB roomsB at h
 simp only [Bool.and_eq_true,decide_eq_true_eq,List.all_eq_true] at h
 obtain ⟨⟨⟨h1,h2⟩,h3⟩,h4⟩:=h
 exact ⟨h1,λ r hr => by have:=h2 r hr; simpa [roomB,inB] using this,h3,λ d hd => deedB_of (h4 d hd)⟩
end Go.Proofs.YtkfafknliihabaaDoor
namespace Go.Proofs.YtkfafknliihabaaDoor
open Go.RowKit
theorem dec_big {u : Nat} (h : 9 < u) : Lib.decDigits u = Lib.decDigits (u / 10) ++ [UInt8.ofNat (48 + u % 10)]:=by
 rw [Lib.decDigits,dif_neg (by omega)]
set_option maxHeartbeats 1000000 in
set_option maxRecDepth 20000 in
theorem l11Dec_any (k : Nat) (hk : k <= 100000000) (w : World) :
  Calls Tryd.prog 92 #[.int .i64 k] w λ e w' => e = .returned (.string ⟨(Lib.itoa k).toArray⟩) /\ Below w.heap.size w w':=by
 have hI:=Lib.hid (Lib.itoa_nonneg k)
 go_enter Tryd.func92, Tryd.ntmps92
 go_wp2
 go_loopw [0,3] (λ a s wr => ∃ (u : Nat) (l : List UInt8),a = .int .i64 u /\ s = .string ⟨l.toArray⟩ /\ u <= 100000000 /\ Lib.decDigits u ++ l = Lib.decDigits k /\ Below w.heap.size w wr) (λ a _ _ => (intOf a).toNat)
 case atStart => exact ⟨k,[],rfl,rfl,hk,List.append_nil _,Below.refl _ _⟩
 case round =>
  obtain ⟨u,l,rfl,rfl,hu,hl,B⟩:=hrel
  have HL:=Lib.hid hl
  clear hl
  have hll : l.length <= 20:=by have:=congrArg List.length HL.out; rw [List.length_append] at this; have:=dec_len (k:=k) (by omega); omega
  by_cases hlt : 9 < u
  ·have hcv:=cv1 wr (48 + u % 10) (by omega)
   rw [show ((48 + u % 10 : Nat) : Int) = 48 + (u : Int) % 10 by omega] at hcv
   have HD:=Lib.hid (dec_big hlt)
   go_wp2
   go_roundw
   case rel => exact ⟨u / 10,UInt8.ofNat (48 + u % 10) :: l,by first | rfl | (congr 1; omega),by rw [bytes_app]; simp,by omega,by rw [<- HL.out,HD.out]; simp,below_al B _⟩
   case measure => simp [intOf]; omega
  ·have hcv:=cv1 wr (48 + u) (by omega)
   rw [show ((48 + u : Nat) : Int) = 48 + (u : Int) by omega] at hcv
   have HT:=Lib.hid (show (⟨[UInt8.ofNat (48 + u)].toArray⟩ : ByteArray) ++ ⟨l.toArray⟩ = ⟨(Lib.itoa k).toArray⟩ by rw [bytes_app,hI.out,<- HL.out,Lib.decDigits_one (by omega)]; simp)
   go_wp2
   go_ret
   exact ⟨congrArg (λ x => Ending.returned (Value.string x)) (by rw [<- HT.out]; simp),below_al B _⟩
end Go.Proofs.YtkfafknliihabaaDoor
namespace Go.Proofs.YtkfafknliihabaaDoor
open Go.RowKit
def txt (l : List UInt8) : Value:=.string ⟨l.toArray⟩
def txts (ss : List (List UInt8)) : List Value:=ss.map txt
theorem txts_get {ss : List (List UInt8)} {k : Nat} {l : List UInt8} (h : ss[k]? = some l) : (txts ss)[k]? = some (.string ⟨l.toArray⟩):=by simp [txts,h,txt]
theorem txts_len (ss : List (List UInt8)) : (txts ss).length = ss.length:=by simp [txts]
theorem Slc.txtLen {w : World} {lo hi n c : Nat} {A : Option Addr} {ss : List (List UInt8)} (h : Slc w lo hi 1 A n c (txts ss)) : ss.length = n:=by
 have:=h.len; rw [txts_len] at this; omega
theorem Slc.txtAt {w : World} {lo hi n c : Nat} {A : Option Addr} {ss : List (List UInt8)} (h : Slc w lo hi 1 A n c (txts ss)) {k : Nat} (hk : k < n) :
  ∃ b off l,A = some ⟨b,off,none⟩ /\ lo <= b /\ b < hi /\ b < w.heap.size /\ ss[k]? = some l /\ w.cell? ⟨b,off + k,none⟩ = some (.string ⟨l.toArray⟩):=by
 obtain ⟨b,off,e,h1,h2,h3,h4⟩:=h.at_ (by omega)
 have hl : k < ss.length:=by rw [h.txtLen]; exact hk
 exact ⟨b,off,ss[k],e,h1,h2,h3,List.getElem?_eq_getElem hl,h4 k _ (txts_get (List.getElem?_eq_getElem hl))⟩
end Go.Proofs.YtkfafknliihabaaDoor
namespace Go.Proofs.YtkfafknliihabaaDoor
open Go.RowKit
structure LnV where
 room : Int
 AH : Option Addr
 nH : Nat
 cH : Nat
 ended : Bool
 AT : Option Addr
 nT : Nat
 cT : Nat
def LnV.cells (v : LnV) : List Value:=[.int .i64 v.room,.slice v.AH v.nH v.cH,.bool v.ended,.slice v.AT v.nT v.cT]
structure LnOk (w : World) (P : Nat -> Prop) (v : LnV) (l : Ln) : Prop where
 room : v.room = l.room
 ended : v.ended = l.ended
 held : Slc w 0 w.heap.size 1 v.AH v.nH v.cH (ints l.held)
 taken : Slc w 0 w.heap.size 1 v.AT v.nT v.cT (ints l.taken)
 heldP : ∀ b off,0 < v.nH -> v.AH = some ⟨b,off,none⟩ -> P b
 takenP : ∀ b off,0 < v.nT -> v.AT = some ⟨b,off,none⟩ -> P b
theorem LnOk.below {w w' : World} {P : Nat -> Prop} {v : LnV} {l : Ln} (h : LnOk w P v l) (hb : Below w.heap.size w w') : LnOk w' P v l:=
 ⟨h.room,h.ended,(h.held.below hb).wide (Nat.le_refl _) hb.size,(h.taken.below hb).wide (Nat.le_refl _) hb.size,h.heldP,h.takenP⟩
theorem Slc.inP {w : World} {lo hi s n c : Nat} {A : Option Addr} {xs : List Value} {P : Nat -> Prop} (h : Slc w lo hi s A n c xs) (hP : ∀ b,lo <= b -> P b) : ∀ b off,0 < n -> A = some ⟨b,off,none⟩ -> P b:=by
 intro b off hn e
 obtain ⟨b',off',e',h1,_⟩:=h.at_ hn
 rw [e] at e'; injection e' with e'; injection e' with e1 e2; subst e1
 exact hP _ h1
structure LnSmall (l : Ln) : Prop where
 held : l.held.length <= 1000
 taken : l.taken.length <= 1000
 words : ∀ x ∈ l.held,0 <= x /\ x <= 1000
def LnV.full (v : LnV) : Prop:=(∃ b off,v.AH = some ⟨b,off,none⟩) /\ ∃ b off,v.AT = some ⟨b,off,none⟩
def DoneSays (w : World) (P : Nat -> Prop) (v : LnV) (l : Ln) (d : DeedD) (e : Ending) (w' : World) : Prop:=
 ∃ v' : LnV,e = .returned (.tuple #[.agg v'.cells.toArray,.string ⟨(doneF l d).2.toArray⟩]) /\ LnOk w' P v' (doneF l d).1 /\ Below w.heap.size w w' /\ (v.full -> v'.full)
set_option maxHeartbeats 2000000 in
theorem done_look (v : LnV) (l : Ln) (d : DeedD) (w : World) (P : Nat -> Prop) (h : LnOk w P v l) (hs : LnSmall l) (hd : d.act.toList = lookA) :
  Calls Tryd.prog 59 #[.agg #[.int .i64 v.room,.slice v.AH v.nH v.cH,.bool v.ended,.slice v.AT v.nT v.cT],.agg #[.string d.act,.int .i64 d.a,.int .i64 d.b]] w (DoneSays w P v l d):=by
 have hF : doneF l d = (l,Lib.itoa l.held.length):=by unfold doneF; rw [if_pos hd]
 have HF:=Lib.hid hF
 have hn:=h.held.length
 have hs1:=hs.held
 rw [hn] at hs1
 have HN:=Lib.hid hn
 have HO:=Lib.hid h
 clear hF hn h hs
 obtain ⟨s,x,y⟩:=d
 obtain ⟨r,A,n,c,t,A',n',c'⟩:=v
 have hd' : (s.toList == [108,111,111,107]) = true:=by rw [beq_iff_eq]; exact hd
 clear hd
 have hs2 : n <= 100000000:=Nat.le_trans hs1 (by omega)
 clear hs1
 go_enter Tryd.func59, Tryd.ntmps59
 go_wp2_with fail
 obtain ⟨W,hW⟩ : ∃ W,W = ((w.alloc (.cells #[.int .i64 r,.slice A n c,.bool t,.slice A' n' c'] 102)).alloc (.cells #[.string s,.int .i64 x,.int .i64 y] 34)).alloc (.cells #[.int .i64 0,.slice none 0 0,.bool false,.slice none 0 0] 102):=⟨_,rfl⟩
 rw [<- hW]
 have kl : W.heap[w.heap.size]? = some (.cells #[.int .i64 r,.slice A n c,.bool t,.slice A' n' c'] 102):=by rw [hW]; exact blk_alloc (blk_alloc (heap_alloc_new _ _) _) _
 have kr : W.heap[w.heap.size + 1 + 1]? = some (.cells #[.int .i64 0,.slice none 0 0,.bool false,.slice none 0 0] 102):=by rw [hW]; exact heap_new' _ _ (by simp)
 have B : Below w.heap.size w W:=by rw [hW]; exact below_al (below_al (below_al (Below.refl _ _) _) _) _
 have zr:=blk_lt kr
 clear hW
 have el:=blk_cell kl
 have er:=blk_cell kr
 have fr:=blk_frozen' kr
 go_region_with (first
  | (go_at_call 92; refine (l11Dec_any n hs2 _).mono ?_; rintro e W2 ⟨rfl,b2⟩; obtain ⟨kl,zl⟩:=blk_below b2 (by first | exact kl | (apply blk_drew; exact kl)); obtain ⟨kr,zr⟩:=blk_below b2 (by first | exact kr | (apply blk_drew; exact kr)); have el:=blk_cell kl; have er:=blk_cell kr; have fr:=blk_frozen' kr; have B:=below_step (by first | exact B | (apply below_drew; exact B)) b2))
 all_goals
  go_wp2
  refine bodyPost_ret (v:=.tuple #[.agg #[.int .i64 r,.slice A n c,.bool t,.slice A' n' c'],.string ⟨(Lib.itoa n).toArray⟩]) ?_ rfl ⟨⟨r,A,n,c,t,A',n',c'⟩,?_,?_,?_,λ hf => hf⟩
  ·simp [results,Tryd.results59,go_sem,er]
  ·rw [HF.out,HN.out]; rfl
  ·rw [HF.out]; exact HO.out.below (((((B.setCell (by simp; omega) _).setCell (by simp; omega) _).setCell (by simp; omega) _).setCell (by simp; omega) _))
  ·exact ((((B.setCell (by simp; omega) _).setCell (by simp; omega) _).setCell (by simp; omega) _).setCell (by simp; omega) _)
set_option maxHeartbeats 2000000 in
theorem done_never (v : LnV) (l : Ln) (d : DeedD) (w : World) (P : Nat -> Prop) (h : LnOk w P v l) (hs : LnSmall l) (hl : ¬ d.act.toList = lookA) (hd : d.a = 0) :
  Calls Tryd.prog 59 #[.agg #[.int .i64 v.room,.slice v.AH v.nH v.cH,.bool v.ended,.slice v.AT v.nT v.cT],.agg #[.string d.act,.int .i64 d.a,.int .i64 d.b]] w (DoneSays w P v l d):=by
 have hF : doneF l d = (l,tNever):=by
  unfold doneF; rw [if_neg hl,if_pos hd]
 have HF:=Lib.hid hF
 have hn:=h.held.length
 have hs1:=hs.held
 rw [hn] at hs1
 have hro:=h.room
 have hen:=h.ended
 have HO:=Lib.hid h
 clear hF h hs
 obtain ⟨s,x,y⟩:=d
 obtain ⟨r,A,n,c,t,A',n',c'⟩:=v
 obtain ⟨lr,lh,le,lt⟩:=l
 subst hro hen
 have h1 : (s.toList == [108,111,111,107]) = false:=by rw [beq_eq_false_iff_ne]; exact hl
 have hx : x = 0:=hd
 subst hx
 clear hl hd
 go_enter Tryd.func59, Tryd.ntmps59
 go_wp2
 refine bodyPost_ret (v:=.tuple #[.agg #[.int .i64 r,.slice A n c,.bool t,.slice A' n' c'],.string ⟨tNever.toArray⟩]) ?_ rfl ⟨⟨r,A,n,c,t,A',n',c'⟩,?_,?_,?_,λ hf => hf⟩
 ·simp [results,Tryd.results59,go_sem,tNever]
 ·rw [HF.out]; rfl
 ·rw [HF.out]; exact HO.out.below (below_al (below_al (below_al (Below.refl _ _) _) _) _)
 ·exact (below_al (below_al (below_al (Below.refl _ _) _) _) _)
set_option maxHeartbeats 2000000 in
theorem done_ended (v : LnV) (l : Ln) (d : DeedD) (w : World) (P : Nat -> Prop) (h : LnOk w P v l) (hs : LnSmall l) (hl : ¬ d.act.toList = lookA) (hd : ¬ d.a = 0) (ht : d.act.toList = takeA -> l.held = []) (he : l.ended = true) :
  Calls Tryd.prog 59 #[.agg #[.int .i64 v.room,.slice v.AH v.nH v.cH,.bool v.ended,.slice v.AT v.nT v.cT],.agg #[.string d.act,.int .i64 d.a,.int .i64 d.b]] w (DoneSays w P v l d):=by
 have hF : doneF l d = (l,tEnded):=by
  unfold doneF; rw [if_neg hl,if_neg hd]
  cases hb : (d.act.toList == takeA)
  ·simp [he]
  ·rw [ht (eq_of_beq hb)]; simp [he]
 have HF:=Lib.hid hF
 have hn:=h.held.length
 have hs1:=hs.held
 rw [hn] at hs1
 have hro:=h.room
 have hen:=h.ended
 have HO:=Lib.hid h
 clear hF h hs
 obtain ⟨s,x,y⟩:=d
 obtain ⟨r,A,n,c,t,A',n',c'⟩:=v
 obtain ⟨lr,lh,le,lt⟩:=l
 subst hro hen
 have h1 : (s.toList == [108,111,111,107]) = false:=by rw [beq_eq_false_iff_ne]; exact hl
 have h2 : (x == 0) = false:=by rw [beq_eq_false_iff_ne]; exact hd
 have he' : t = true:=he
 subst he'
 have h3 : ((s.toList == [116,97,107,101]) = true /\ n = 0) \/ (s.toList == [116,97,107,101]) = false:=by
  cases hb : (s.toList == [116,97,107,101])
  ·exact .inr rfl
  ·exact .inl ⟨rfl,by have:=ht (eq_of_beq hb); simp only at this; subst this; simpa using hn.symm⟩
 clear hl hd ht he hn
 rcases h3 with ⟨h3,rfl⟩ | h3
 ·go_enter Tryd.func59, Tryd.ntmps59
  go_wp2
  refine bodyPost_ret (v:=.tuple #[.agg #[.int .i64 r,.slice A 0 c,.bool true,.slice A' n' c'],.string ⟨tEnded.toArray⟩]) ?_ rfl ⟨⟨r,A,0,c,true,A',n',c'⟩,?_,?_,?_,λ hf => hf⟩
  ·simp [results,Tryd.results59,go_sem,tEnded]
  ·rw [HF.out]; rfl
  ·rw [HF.out]; exact HO.out.below (below_al (below_al (below_al (Below.refl _ _) _) _) _)
  ·exact (below_al (below_al (below_al (Below.refl _ _) _) _) _)
 ·go_enter Tryd.func59, Tryd.ntmps59
  go_wp2
  refine bodyPost_ret (v:=.tuple #[.agg #[.int .i64 r,.slice A n c,.bool true,.slice A' n' c'],.string ⟨tEnded.toArray⟩]) ?_ rfl ⟨⟨r,A,n,c,true,A',n',c'⟩,?_,?_,?_,λ hf => hf⟩
  ·simp [results,Tryd.results59,go_sem,tEnded]
  ·rw [HF.out]; rfl
  ·rw [HF.out]; exact HO.out.below (below_al (below_al (below_al (Below.refl _ _) _) _) _)
  ·exact (below_al (below_al (below_al (Below.refl _ _) _) _) _)
set_option maxHeartbeats 2000000 in
theorem done_empty (v : LnV) (l : Ln) (d : DeedD) (w : World) (P : Nat -> Prop) (h : LnOk w P v l) (hs : LnSmall l) (hd : ¬ d.a = 0) (ht : d.act.toList = takeA) (hh : l.held = []) (he : l.ended = false) :
  Calls Tryd.prog 59 #[.agg #[.int .i64 v.room,.slice v.AH v.nH v.cH,.bool v.ended,.slice v.AT v.nT v.cT],.agg #[.string d.act,.int .i64 d.a,.int .i64 d.b]] w (DoneSays w P v l d):=by
 have hF : doneF l d = (l,tEmpty):=by
  unfold doneF
  rw [if_neg (by rw [ht]; simp [takeA,lookA]),if_neg hd,ht,hh]; simp [he]
 have HF:=Lib.hid hF
 have hn:=h.held.length
 have hs1:=hs.held
 rw [hn] at hs1
 have hro:=h.room
 have hen:=h.ended
 have HO:=Lib.hid h
 clear hF h hs
 obtain ⟨s,x,y⟩:=d
 obtain ⟨r,A,n,c,t,A',n',c'⟩:=v
 obtain ⟨lr,lh,le,lt⟩:=l
 subst hro hen
 have hs' : s.toList = takeA:=ht
 have h1 : (s.toList == [108,111,111,107]) = false:=by rw [hs']; rfl
 have h2 : (x == 0) = false:=by rw [beq_eq_false_iff_ne]; exact hd
 have h3 : (s.toList == [116,97,107,101]) = true:=by rw [hs']; rfl
 have he' : t = false:=he
 have hh' : lh = []:=hh
 subst he' hh'
 have hn' : n = 0:=by simpa using hn.symm
 subst hn'
 clear hd ht he hh hn hs'
 go_enter Tryd.func59, Tryd.ntmps59
 go_wp2
 refine bodyPost_ret (v:=.tuple #[.agg #[.int .i64 r,.slice A 0 c,.bool false,.slice A' n' c'],.string ⟨tEmpty.toArray⟩]) ?_ rfl ⟨⟨r,A,0,c,false,A',n',c'⟩,?_,?_,?_,λ hf => hf⟩
 ·simp [results,Tryd.results59,go_sem,tEmpty]
 ·rw [HF.out]; rfl
 ·rw [HF.out]; exact HO.out.below (below_al (below_al (below_al (Below.refl _ _) _) _) _)
 ·exact (below_al (below_al (below_al (Below.refl _ _) _) _) _)
set_option maxHeartbeats 2000000 in
theorem done_end (v : LnV) (l : Ln) (d : DeedD) (w : World) (P : Nat -> Prop) (h : LnOk w P v l) (hs : LnSmall l) (hd : ¬ d.a = 0) (ht : d.act.toList = endA) (he : l.ended = false) :
  Calls Tryd.prog 59 #[.agg #[.int .i64 v.room,.slice v.AH v.nH v.cH,.bool v.ended,.slice v.AT v.nT v.cT],.agg #[.string d.act,.int .i64 d.a,.int .i64 d.b]] w (DoneSays w P v l d):=by
 have hF : doneF l d = ({ l with ended:=true },tEnd):=by
  unfold doneF
  rw [if_neg (by rw [ht]; simp [endA,lookA]),if_neg hd,ht]
  cases l.held <;> simp [he,endA,takeA]
 have HF:=Lib.hid hF
 have hn:=h.held.length
 have hs1:=hs.held
 rw [hn] at hs1
 have hro:=h.room
 have hen:=h.ended
 have HO:=Lib.hid h
 clear hF h hs
 obtain ⟨s,x,y⟩:=d
 obtain ⟨r,A,n,c,t,A',n',c'⟩:=v
 obtain ⟨lr,lh,le,lt⟩:=l
 subst hro hen
 have hs' : s.toList = endA:=ht
 have h1 : (s.toList == [108,111,111,107]) = false:=by rw [hs']; rfl
 have h2 : (x == 0) = false:=by rw [beq_eq_false_iff_ne]; exact hd
 have h3 : (s.toList == [116,97,107,101]) = false:=by rw [hs']; rfl
 have h4 : (s.toList == [101,110,100]) = true:=by rw [hs']; rfl
 have he' : t = false:=he
 subst he'
 clear hd ht he hs' hn
 go_enter Tryd.func59, Tryd.ntmps59
 go_wp2
 refine bodyPost_ret (v:=.tuple #[.agg #[.int .i64 r,.slice A n c,.bool true,.slice A' n' c'],.string ⟨tEnd.toArray⟩]) ?_ rfl ⟨⟨r,A,n,c,true,A',n',c'⟩,?_,?_,?_,λ hf => hf⟩
 ·simp [results,Tryd.results59,go_sem,tEnd]
 ·rw [HF.out]; rfl
 ·rw [HF.out]; exact ⟨rfl,rfl,(HO.out.below (below_al (below_al (below_al (Below.refl _ _) _) _) _)).held,(HO.out.below (below_al (below_al (below_al (Below.refl _ _) _) _) _)).taken,HO.out.heldP,HO.out.takenP⟩
 ·exact (below_al (below_al (below_al (Below.refl _ _) _) _) _)
set_option maxHeartbeats 2000000 in
theorem done_full (v : LnV) (l : Ln) (d : DeedD) (w : World) (P : Nat -> Prop) (h : LnOk w P v l) (hs : LnSmall l) (hd : ¬ d.a = 0) (ht : d.act.toList = putA) (he : l.ended = false) (hr : l.room <= l.held.length) :
  Calls Tryd.prog 59 #[.agg #[.int .i64 v.room,.slice v.AH v.nH v.cH,.bool v.ended,.slice v.AT v.nT v.cT],.agg #[.string d.act,.int .i64 d.a,.int .i64 d.b]] w (DoneSays w P v l d):=by
 have hF : doneF l d = (l,tFull):=by
  unfold doneF
  rw [if_neg (by rw [ht]; simp [putA,lookA]),if_neg hd,ht]
  cases hc : l.held <;> (rw [hc] at hr; simp [he,putA,takeA,endA]; simp at hr; intro hx; omega)
 have HF:=Lib.hid hF
 have hn:=h.held.length
 have hs1:=hs.held
 rw [hn] at hs1
 have hro:=h.room
 have hen:=h.ended
 have HO:=Lib.hid h
 clear hF h hs
 obtain ⟨s,x,y⟩:=d
 obtain ⟨r,A,n,c,t,A',n',c'⟩:=v
 obtain ⟨lr,lh,le,lt⟩:=l
 subst hro hen
 have hs' : s.toList = putA:=ht
 have h1 : (s.toList == [108,111,111,107]) = false:=by rw [hs']; rfl
 have h2 : (x == 0) = false:=by rw [beq_eq_false_iff_ne]; exact hd
 have h3 : (s.toList == [116,97,107,101]) = false:=by rw [hs']; rfl
 have h4 : (s.toList == [101,110,100]) = false:=by rw [hs']; rfl
 have he' : t = false:=he
 subst he'
 have hr' : r <= n:=by have h0:=hr; have h9:=hn; simp only at h0 h9; omega
 clear hd ht he hs' hn hr
 go_enter Tryd.func59, Tryd.ntmps59
 go_wp2
 refine bodyPost_ret (v:=.tuple #[.agg #[.int .i64 r,.slice A n c,.bool false,.slice A' n' c'],.string ⟨tFull.toArray⟩]) ?_ rfl ⟨⟨r,A,n,c,false,A',n',c'⟩,?_,?_,?_,λ hf => hf⟩
 ·simp [results,Tryd.results59,go_sem,tFull]
 ·rw [HF.out]; rfl
 ·rw [HF.out]; exact HO.out.below (below_al (below_al (below_al (Below.refl _ _) _) _) _)
 ·exact (below_al (below_al (below_al (Below.refl _ _) _) _) _)
end Go.Proofs.YtkfafknliihabaaDoor
namespace Go.Proofs.YtkfafknliihabaaDoor
open Go.RowKit
theorem ln_two {w2 w' : World} {P : Nat -> Prop} {a H : Nat} {v : LnV} {l : Ln} (hr : v.room = l.room) (he : v.ended = l.ended) (hh : Slc w2 H w2.heap.size 1 v.AH v.nH v.cH (ints l.held)) (ht : Slc w2 0 a 1 v.AT v.nT v.cT (ints l.taken))
  (htP : ∀ b off,0 < v.nT -> v.AT = some ⟨b,off,none⟩ -> P b) (hP : ∀ b,H <= b -> P b) (ha : a <= w2.heap.size) (hk : Chg a H w2 w') : LnOk w' P v l:=
 ⟨hr,he,(hh.chg hk (.inr (Nat.le_refl _))).wide (Nat.zero_le _) hk.size,(ht.chg hk (.inl (Nat.le_refl _))).wide (Nat.le_refl _) (Nat.le_trans ha hk.size),hh.inP hP,htP⟩
theorem ints_snoc (xs : List Int) (y : Int) : ints xs ++ [.int .i64 y] = ints (xs ++ [y]):=by simp [ints]
set_option maxHeartbeats 4000000 in
theorem done_put (v : LnV) (l : Ln) (d : DeedD) (w : World) (P : Nat -> Prop) (h : LnOk w P v l) (hs : LnSmall l) (hd : ¬ d.a = 0) (ht : d.act.toList = putA) (he : l.ended = false) (hr : ¬ l.room <= l.held.length) (hP : ∀ b,w.heap.size <= b -> P b) (hf : v.full) :
  Calls Tryd.prog 59 #[.agg #[.int .i64 v.room,.slice v.AH v.nH v.cH,.bool v.ended,.slice v.AT v.nT v.cT],.agg #[.string d.act,.int .i64 d.a,.int .i64 d.b]] w (DoneSays w P v l d):=by
 have hF : doneF l d = ({ l with held:=l.held ++ [d.b] },tPut):=by
  unfold doneF
  rw [if_neg (by rw [ht]; simp [putA,lookA]),if_neg hd,ht]
  cases hc : l.held <;> (rw [hc] at hr; simp [he,putA,takeA,endA]; simp at hr; omega)
 have HF:=Lib.hid hF
 have hn:=h.held.length
 have hs1:=hs.held
 rw [hn] at hs1
 have hro:=h.room
 have hen:=h.ended
 have HO:=Lib.hid h
 clear hF h hs
 obtain ⟨s,x,y⟩:=d
 obtain ⟨r,A,n,c,t,A',n',c'⟩:=v
 obtain ⟨lr,lh,le,lt⟩:=l
 subst hro hen
 have hs' : s.toList = putA:=ht
 have h1 : (s.toList == [108,111,111,107]) = false:=by rw [hs']; rfl
 have h2 : (x == 0) = false:=by rw [beq_eq_false_iff_ne]; exact hd
 have h3 : (s.toList == [116,97,107,101]) = false:=by rw [hs']; rfl
 have h4 : (s.toList == [101,110,100]) = false:=by rw [hs']; rfl
 have he' : t = false:=he
 subst he'
 have hr' : ¬ r <= n:=by have h0:=hr; have h9:=hn; simp only at h0 h9; omega
 obtain ⟨⟨bh,oh,eh⟩,hf2⟩:=hf
 have eh' : A = some ⟨bh,oh,none⟩:=eh
 subst eh'
 have HF2:=Lib.hid hf2
 have hn' : lh.length = n:=hn
 have hs1' : n <= 1000:=hs1
 have HN:=Lib.hid (And.intro hn' hs1')
 have hcl : n <= c:=HO.out.held.le
 have HC:=Lib.hid hcl
 clear hd ht he hs' hn hr hs1 eh hf2 hn' hs1' hcl
 obtain ⟨i0,hi,hz0,hz1,hz2⟩:=info_parts info_int
 have HI:=Lib.hid (And.intro hi (And.intro hz0 (And.intro hz1 hz2)))
 clear hi hz0 hz1 hz2
 go_enter Tryd.func59, Tryd.ntmps59
 go_upto_region 19 with fail
 obtain ⟨W,hW⟩ : ∃ W,W = ((w.alloc (.cells #[.int .i64 r,.slice (some ⟨bh,oh,none⟩) n c,.bool false,.slice A' n' c'] 102)).alloc (.cells #[.string s,.int .i64 x,.int .i64 y] 34)).alloc (.cells #[.int .i64 0,.slice none 0 0,.bool false,.slice none 0 0] 102):=⟨_,rfl⟩
 rw [<- hW]
 have kl : W.heap[w.heap.size]? = some (.cells #[.int .i64 r,.slice (some ⟨bh,oh,none⟩) n c,.bool false,.slice A' n' c'] 102):=by rw [hW]; exact blk_alloc (blk_alloc (heap_alloc_new _ _) _) _
 have kd : W.heap[w.heap.size + 1]? = some (.cells #[.string s,.int .i64 x,.int .i64 y] 34):=by rw [hW]; exact blk_alloc (heap_new' _ _ (by simp)) _
 have kr : W.heap[w.heap.size + 1 + 1]? = some (.cells #[.int .i64 0,.slice none 0 0,.bool false,.slice none 0 0] 102):=by rw [hW]; exact heap_new' _ _ (by simp)
 have B : Below w.heap.size w W:=by rw [hW]; exact below_al (below_al (below_al (Below.refl _ _) _) _) _
 have zr:=blk_lt kr
 have zd:=blk_lt kd
 have zl:=blk_lt kl
 have HK:=Lib.hid (And.intro kl (And.intro kr (And.intro B kd)))
 clear hW
 have el:=blk_cell kl
 have ed:=blk_cell kd
 have fl:=blk_frozen' kl
 clear kl kd kr B
 go_cut [] from 76 to 84 (λ wc => ∃ g2 c2 w2,wc = w2.setCell ⟨w.heap.size,1,none⟩ (.slice (some ⟨g2,0,none⟩) (n + 1) c2) /\ w2.ownsRow W.heap.size 3 1 (.slice (some ⟨g2,0,none⟩) (n + 1) c2) (n + 1) (ints lh ++ [.int .i64 y]) /\ Below W.heap.size W w2)
 case first =>
  obtain ⟨hi,hz0,hz1,hz2⟩:=HI.out
  have HH:=Lib.hid hi
  clear hi
  go_region_law (first
    | (refine step_app _ rfl (.tmp 76) (.tmp 78) 23 rfl W.heap.size 3 i0 (.int .i64 0) 1 8 Tryd.underlying23 HH.out hz0 hz1 hz2 rfl (by decide) (.slice (some ⟨_,0,none⟩) 0 0) 0 [] rfl (row_empty ?c1 ?c2) (by simp) ⟨bh,oh,none⟩ n c (ints lh) rfl (by simp [ints,HN.out.1]) (HO.out.held.news ?c3) (ints_one _) ?c5 ?c6 ?c7 ?_; (case c1 => first | omega | (simp; done) | (simp; omega)); (case c2 => ((try with_reducible apply blk_drew); (first | with_reducible assumption | (with_reducible refine heap_new' _ _ ?_; simp) | (with_reducible refine blk_alloc ?_ _; first | with_reducible assumption | (with_reducible refine heap_new' _ _ ?_; simp)) | (with_reducible refine blk_alloc ?_ _; with_reducible refine blk_alloc ?_ _; first | with_reducible assumption | (with_reducible refine heap_new' _ _ ?_; simp)) | (with_reducible refine blk_alloc ?_ _; with_reducible refine blk_alloc ?_ _; with_reducible refine blk_alloc ?_ _; first | with_reducible assumption | (with_reducible refine heap_new' _ _ ?_; simp))))); (case c3 => (refine HK.out.2.2.1.trans (Below.mono (?_ : Below W.heap.size W _) (by omega)); (repeat' (first | with_reducible assumption | with_reducible exact Below.refl _ _ | with_reducible apply below_al | with_reducible apply below_drew)))); (case c5 => have:=HN.out.2; unfold maxLen; omega); (case c6 => have:=HN.out.2; omega); (case c7 => first | omega | (simp; done) | (simp; omega)); intro g1 c1 w1 hown1 hgr1 B1; simp only [Nat.zero_add,List.nil_append] at hown1; have HO1:=Lib.hid hown1; have HG1:=Lib.hid hgr1; have BW:=(Below.trans (by (repeat' (first | with_reducible assumption | with_reducible exact Below.refl _ _ | with_reducible apply below_al | with_reducible apply below_drew))) B1 : Below W.heap.size W w1); have z1:=BW.size; have el:=blk_cell ((BW.block _ zl).trans HK.out.1); have ed:=blk_cell ((BW.block _ zd).trans HK.out.2.2.2); have fl:=blk_frozen' ((BW.block _ zl).trans HK.out.1); have HB1:=Lib.hid BW; clear hown1 hgr1 B1 BW)
    | (refine step_app _ rfl (.tmp 79) (.tmp 82) 23 rfl W.heap.size 3 i0 (.int .i64 0) 1 8 Tryd.underlying23 HH.out hz0 hz1 hz2 rfl (by decide) (.slice (some ⟨g1,0,none⟩) n c1) n (ints lh) rfl ?c1 (by simp) ⟨_,0,none⟩ 1 1 [.int .i64 y] rfl rfl ?c2 (by simp [Value.oneCell']) ?c5 ?c6 ?c7 ?_; (case c1 => first | exact HO1.out | exact row_keep HO1.out (λ b hb => Below.heap_alloc _ _ b hb)); (case c2 => first | exact cell_one_new _ _ _ | exact World.news_of_block ((HG1.out.block _ (by first | (simp; done) | (simp; omega)) (by first | (simp [Value.ownBlock]; done) | (simp [Value.ownBlock]; omega))).trans (by ((try with_reducible apply blk_drew); (first | with_reducible assumption | (with_reducible refine heap_new' _ _ ?_; simp) | (with_reducible refine blk_alloc ?_ _; first | with_reducible assumption | (with_reducible refine heap_new' _ _ ?_; simp)) | (with_reducible refine blk_alloc ?_ _; with_reducible refine blk_alloc ?_ _; first | with_reducible assumption | (with_reducible refine heap_new' _ _ ?_; simp)) | (with_reducible refine blk_alloc ?_ _; with_reducible refine blk_alloc ?_ _; with_reducible refine blk_alloc ?_ _; first | with_reducible assumption | (with_reducible refine heap_new' _ _ ?_; simp))))))); (case c5 => have:=HN.out.2; unfold maxLen; omega); (case c6 => have:=HN.out.2; omega); (case c7 => first | omega | (simp; done) | (simp; omega)); intro g2 c2 w2 hown2 hgr2 B2; have HO2:=Lib.hid hown2; have BW:=(Below.trans (by have:=HB1.out; (repeat' (first | with_reducible assumption | with_reducible exact Below.refl _ _ | with_reducible apply below_al | with_reducible apply below_drew))) B2 : Below W.heap.size W w2); have z2:=BW.size; have kl:=(BW.block _ zl).trans HK.out.1; have kr:=(BW.block _ zr).trans HK.out.2.1; have el:=blk_cell kl; have er:=blk_cell kr; have fl:=blk_frozen' kl; have fr:=blk_frozen' kr; have HB2:=Lib.hid BW; have HKL:=Lib.hid kl; clear hown2 hgr2 B2 BW kl kr))
  all_goals
   go_wp2_with fail
   go_meet
   exact ⟨g2,c2,w2,rfl,HO2.out,HB2.out⟩
 case rest =>
  obtain ⟨g2,c2,w2,rfl,ho2,hb2⟩:=hcut
  have hO2:=row_slc ho2 (by decide)
  have HO2:=Lib.hid hO2
  have z2:=hb2.size
  have HB2:=Lib.hid hb2
  have kl:=(hb2.block _ zl).trans HK.out.1
  have kr:=(hb2.block _ zr).trans HK.out.2.1
  have el:=blk_cell kl
  have er:=blk_cell kr
  have fl:=blk_frozen' kl
  have fr:=blk_frozen' kr
  have zl2:=blk_lt kl
  have zr2:=blk_lt kr
  clear kl kr ho2 hO2 hb2 ed
  go_wp2
  have hF:=HF.out
  have hO2:=HO2.out
  have hC:=HK.out.2.2.1.trans (HB2.out.mono (by omega))
  refine bodyPost_ret (v:=.tuple #[.agg #[.int .i64 r,.slice (some ⟨g2,0,none⟩) (n + 1) c2,.bool false,.slice A' n' c'],.string ⟨tPut.toArray⟩]) ?_ rfl ⟨⟨r,some ⟨g2,0,none⟩,n + 1,c2,false,A',n',c'⟩,?_,?_,?_,λ hf => ⟨⟨_,_,rfl⟩,hf.2⟩⟩
  ·simp [results,Tryd.results59,go_sem,er,tPut]
  ·rw [hF]; rfl
  ·rw [hF]
   refine ln_two rfl rfl ?_ (HO.out.taken.below hC) HO.out.takenP (λ b hb => hP b (by omega)) hC.size (H:=W.heap.size) (by (repeat' (first | with_reducible assumption | with_reducible exact Chg.refl _ _ _ | (with_reducible refine Chg.setCell ?_ (by first | omega | (simp; done) | (simp; omega)) (by first | omega | (simp; done) | (simp; omega)) _) | with_reducible apply Chg.alloc)))
   rw [<- ints_snoc]; exact hO2
  ·exact Below.chg hC (hi:=W.heap.size) (by (repeat' (first | with_reducible assumption | with_reducible exact Chg.refl _ _ _ | (with_reducible refine Chg.setCell ?_ (by first | omega | (simp; done) | (simp; omega)) (by first | omega | (simp; done) | (simp; omega)) _) | with_reducible apply Chg.alloc))) (Nat.le_refl _)
end Go.Proofs.YtkfafknliihabaaDoor
namespace Go.Proofs.YtkfafknliihabaaDoor
open Go.RowKit
theorem Slc.belowHi {w w' : World} {lo hi s n c : Nat} {A : Option Addr} {xs : List Value} (h : Slc w lo hi s A n c xs) (hb : Below hi w w') : Slc w' lo hi s A n c xs:=
 h.keep hb.size λ b _ h2 _ => hb.block b h2
theorem ln_both {w2 w' : World} {P : Nat -> Prop} {a H : Nat} {v : LnV} {l : Ln} (hr : v.room = l.room) (he : v.ended = l.ended) (hh : Slc w2 H w2.heap.size 1 v.AH v.nH v.cH (ints l.held)) (ht : Slc w2 H w2.heap.size 1 v.AT v.nT v.cT (ints l.taken))
  (hP : ∀ b,H <= b -> P b) (hk : Chg a H w2 w') : LnOk w' P v l:=
 ⟨hr,he,(hh.chg hk (.inr (Nat.le_refl _))).wide (Nat.zero_le _) hk.size,(ht.chg hk (.inr (Nat.le_refl _))).wide (Nat.zero_le _) hk.size,hh.inP hP,ht.inP hP⟩
theorem Slc.tail {w : World} {lo c b off : Nat} {x : Int} {xs : List Int} (h : Slc w lo w.heap.size 1 (some ⟨b,off,none⟩) (xs.length + 1) c (ints (x :: xs))) :
  ∃ AD : Addr,(if c = 1 then some (⟨b,off,none⟩ : Addr) else some ⟨b,off + 1,none⟩) = some AD /\ ∀ w',Below w.heap.size w w' -> ∀ j u,(ints xs)[j]? = some u -> w'.cell? (AD.add j) = some u:=by
 by_cases hc : c = 1
 ·have h1:=h.le
  have : xs = []:=List.eq_nil_of_length_eq_zero (by omega)
  subst this
  exact ⟨_,if_pos hc,λ _ _ j u hu => by simp [ints] at hu⟩
 ·refine ⟨_,if_neg hc,λ w' hb j u hu => ?_⟩
  obtain ⟨b',off',e,_,_,h3,h4⟩:=h.at_ (by omega)
  injection e with e; injection e with e1 e2; subst e1 e2
  rw [Addr.add_lit]
  refine (World.cell?_of_block (hb.block b h3)).trans ?_
  have:=h4 (j + 1) u (by simpa [ints] using hu)
  rw [show off + 1 + j = off + (j + 1) by omega]
  exact this
set_option maxRecDepth 20000 in
set_option maxHeartbeats 4000000 in
theorem done_take (v : LnV) (l : Ln) (d : DeedD) (w : World) (P : Nat -> Prop) (h : LnOk w P v l) (hs : LnSmall l) (hd : ¬ d.a = 0) (ht : d.act.toList = takeA) (hne : ¬ l.held = []) (hP : ∀ b,w.heap.size <= b -> P b) (hf : v.full) :
  Calls Tryd.prog 59 #[.agg #[.int .i64 v.room,.slice v.AH v.nH v.cH,.bool v.ended,.slice v.AT v.nT v.cT],.agg #[.string d.act,.int .i64 d.a,.int .i64 d.b]] w (DoneSays w P v l d):=by
 obtain ⟨lr,lh,le,lt⟩:=l
 obtain ⟨x0,xs,ehl⟩ : ∃ x0 xs,lh = x0 :: xs:=by cases lh with
  | nil => exact absurd rfl hne
  | cons a b => exact ⟨a,b,rfl⟩
 subst ehl
 have hF : doneF ⟨lr,x0 :: xs,le,lt⟩ d = (⟨lr,xs,le,lt ++ [x0]⟩,tTook x0):=by
  unfold doneF
  rw [if_neg (by rw [ht]; simp [takeA,lookA]),if_neg hd,ht]
  simp
 have HF:=Lib.hid hF
 have hn:=h.held.length
 have hnT:=h.taken.length
 have hs1:=hs.held
 have hsT:=hs.taken
 obtain ⟨w0,w1⟩:=hs.words x0 (by simp)
 have hro:=h.room
 have hen:=h.ended
 have HO:=Lib.hid h
 clear hF h hs
 obtain ⟨s,x,y⟩:=d
 obtain ⟨r,A,n,c,t,A',n',c'⟩:=v
 subst hro hen
 have hs' : s.toList = takeA:=ht
 have h1 : (s.toList == [108,111,111,107]) = false:=by rw [hs']; rfl
 have h2 : (x == 0) = false:=by rw [beq_eq_false_iff_ne]; exact hd
 have h3 : (s.toList == [116,97,107,101]) = true:=by rw [hs']; rfl
 obtain ⟨⟨bh,oh,eh⟩,⟨bt,ot,et⟩⟩:=hf
 have eh' : A = some ⟨bh,oh,none⟩:=eh
 have et' : A' = some ⟨bt,ot,none⟩:=et
 subst eh' et'
 have hn' : n = xs.length + 1:=by simpa using hn.symm
 subst hn'
 have hnT' : lt.length = n':=hnT
 have hs1' : xs.length + 1 <= 1000:=by simpa using hs1
 have hsT' : n' <= 1000:=by rw [<- hnT']; exact hsT
 have HN:=Lib.hid (And.intro hnT' (And.intro hs1' hsT'))
 have hcl : xs.length + 1 <= c:=HO.out.held.le
 have HC:=Lib.hid hcl
 obtain ⟨b,off,v0,e1,_,_,hbz,hv0,hcell⟩:=HO.out.held.cellAt (k:=0) (by simp)
 injection e1 with e1; injection e1 with e1 e2; subst e1 e2
 have hv0' : x0 = v0:=by simpa using hv0
 subst hv0'
 simp only [Nat.add_zero] at hcell
 obtain ⟨X,rfl⟩:=Int.eq_ofNat_of_zero_le w0
 obtain ⟨AD,hAD,hnews⟩:=HO.out.held.tail
 have HNW:=Lib.hid hnews
 clear hnews
 clear hd ht hs' hn hnT hs1 hsT eh et hs1' hsT' hne hv0
 obtain ⟨i0,hi,hz0,hz1,hz2⟩:=info_parts info_int
 have HI:=Lib.hid (And.intro hi (And.intro hz0 (And.intro hz1 hz2)))
 clear hi hz0 hz1 hz2
 have hgt : (0 : Int) < (xs.length : Int) + 1:=by omega
 go_enter Tryd.func59, Tryd.ntmps59
 go_upto_region 6 with fail
 obtain ⟨W,hW⟩ : ∃ W,W = ((w.alloc (.cells #[.int .i64 r,.slice (some ⟨bh,oh,none⟩) (xs.length + 1) c,.bool t,.slice (some ⟨bt,ot,none⟩) n' c'] 102)).alloc (.cells #[.string s,.int .i64 x,.int .i64 y] 34)).alloc (.cells #[.int .i64 0,.slice none 0 0,.bool false,.slice none 0 0] 102):=⟨_,rfl⟩
 rw [<- hW]
 have kl : W.heap[w.heap.size]? = some (.cells #[.int .i64 r,.slice (some ⟨bh,oh,none⟩) (xs.length + 1) c,.bool t,.slice (some ⟨bt,ot,none⟩) n' c'] 102):=by rw [hW]; exact blk_alloc (blk_alloc (heap_alloc_new _ _) _) _
 have kr : W.heap[w.heap.size + 1 + 1]? = some (.cells #[.int .i64 0,.slice none 0 0,.bool false,.slice none 0 0] 102):=by rw [hW]; exact heap_new' _ _ (by simp)
 have B : Below w.heap.size w W:=by rw [hW]; exact below_al (below_al (below_al (Below.refl _ _) _) _) _
 have zr:=blk_lt kr
 have zl:=blk_lt kl
 have HK:=Lib.hid (And.intro kl (And.intro kr B))
 clear hW
 have el:=blk_cell kl
 have fl:=blk_frozen' kl
 have hcl2:=(B.cell (p:=⟨bh,oh,none⟩) hbz).trans hcell
 clear kl kr B hcell
 obtain ⟨hi,hz0,hz1,hz2⟩:=HI.out
 have HH:=Lib.hid hi
 clear hi
 go_upto_region 8 with (at_builtin; refine wpList_app _ rfl (.tmp 35) (.tmp 38) 23 rfl W.heap.size 3 i0 (.int .i64 0) 1 8 Tryd.underlying23 HH.out hz0 hz1 hz2 rfl (by decide) (.slice (some ⟨W.heap.size,0,none⟩) 0 0) 0 [] rfl (row_empty (Nat.le_refl _) ?c2) (by simp) AD xs.length _ (ints xs) rfl (by simp [ints]) (HNW.out _ ?c3) (ints_one _) ?c5 ?c6 ?c7 ?_; (case c2 => ((try with_reducible apply blk_drew); (first | with_reducible assumption | (with_reducible refine heap_new' _ _ ?_; simp) | (with_reducible refine blk_alloc ?_ _; first | with_reducible assumption | (with_reducible refine heap_new' _ _ ?_; simp)) | (with_reducible refine blk_alloc ?_ _; with_reducible refine blk_alloc ?_ _; first | with_reducible assumption | (with_reducible refine heap_new' _ _ ?_; simp)) | (with_reducible refine blk_alloc ?_ _; with_reducible refine blk_alloc ?_ _; with_reducible refine blk_alloc ?_ _; first | with_reducible assumption | (with_reducible refine heap_new' _ _ ?_; simp))))); (case c3 => (refine HK.out.2.2.trans (Below.mono (?_ : Below W.heap.size W _) (by omega)); (repeat' (first | with_reducible assumption | with_reducible exact Below.refl _ _ | with_reducible apply below_al | with_reducible apply below_drew)))); (case c5 => have:=HN.out.2; unfold maxLen; omega); (case c6 => have:=HN.out.2; omega); (case c7 => first | omega | (simp; done) | (simp; omega)); intro g1 c1 w1 hown1 hgr1 B1; simp only [Nat.zero_add,List.nil_append] at hown1; have BW:=(Below.trans (by (repeat' (first | with_reducible assumption | with_reducible exact Below.refl _ _ | with_reducible apply below_al | with_reducible apply below_drew))) B1 : Below W.heap.size W w1); have z1:=BW.size; have kl:=(BW.block _ zl).trans HK.out.1; have kr:=(BW.block _ zr).trans HK.out.2.1; have zl1:=blk_lt kl; have zr1:=blk_lt kr; have el:=blk_cell kl; have fl:=blk_frozen' kl; have HB1:=Lib.hid BW; have S1:=row_slc hown1 (by decide); have HS1:=Lib.hid S1; have HKL:=Lib.hid kl; have HKR:=Lib.hid kr; clear hown1 hgr1 B1 BW S1 kl kr)
 have kl0:=blk_setCell (i:=1) HKL.out (.slice (some ⟨g1,0,none⟩) xs.length c1)
 have kr0:=(Chg.setCell (Chg.refl w.heap.size (w.heap.size + 1) w1) (p:=⟨w.heap.size,1,none⟩) (Nat.le_refl _) (Nat.lt_succ_self _) (.slice (some ⟨g1,0,none⟩) xs.length c1)).block (w.heap.size + 1 + 1) (by omega) (by omega)
 have kr0:=kr0.trans HKR.out
 have B0 : Below w.heap.size w (w1.setCell ⟨w.heap.size,1,none⟩ (.slice (some ⟨g1,0,none⟩) xs.length c1)):=Below.chg (HK.out.2.2.trans (HB1.out.mono (by omega))) (hi:=W.heap.size) (by (repeat' (first | with_reducible assumption | with_reducible exact Chg.refl _ _ _ | (with_reducible refine Chg.setCell ?_ (by first | omega | (simp; done) | (simp; omega)) (by first | omega | (simp; done) | (simp; omega)) _) | with_reducible apply Chg.alloc))) (Nat.le_refl _)
 have S10 : Slc (w1.setCell ⟨w.heap.size,1,none⟩ (.slice (some ⟨g1,0,none⟩) xs.length c1)) W.heap.size w1.heap.size 1 (some ⟨g1,0,none⟩) xs.length c1 (ints xs):=HS1.out.chg (l':=w.heap.size) (h':=W.heap.size) (by (repeat' (first | with_reducible assumption | with_reducible exact Chg.refl _ _ _ | (with_reducible refine Chg.setCell ?_ (by first | omega | (simp; done) | (simp; omega)) (by first | omega | (simp; done) | (simp; omega)) _) | with_reducible apply Chg.alloc))) (.inr (Nat.le_refl _))
 have sz : (w1.setCell ⟨w.heap.size,1,none⟩ (.slice (some ⟨g1,0,none⟩) xs.length c1)).heap.size = w1.heap.size:=by simp
 rw [<- sz] at S10
 generalize w1.setCell ⟨w.heap.size,1,none⟩ (.slice (some ⟨g1,0,none⟩) xs.length c1) = V at kl0 kr0 B0 S10 sz ⊢
 have zW : W.heap.size <= V.heap.size:=by omega
 simp only [List.setIfInBounds_toArray,List.set_cons_succ,List.set_cons_zero] at kl0
 have HKL:=Lib.hid kl0
 have HKR:=Lib.hid kr0
 have HBV:=Lib.hid B0
 have HSV:=Lib.hid S10
 have el:=blk_cell kl0
 have fl:=blk_frozen' kl0
 have zl:=blk_lt kl0
 have zr:=blk_lt kr0
 clear kl0 kr0 B0 S10 sz
 go_wp2_with (first
  | (at_builtin; refine wpList_app _ rfl (.tmp 41) (.tmp 43) 23 rfl V.heap.size 3 i0 (.int .i64 0) 1 8 Tryd.underlying23 HH.out hz0 hz1 hz2 rfl (by decide) (.slice (some ⟨V.heap.size,0,none⟩) 0 0) 0 [] rfl (row_empty (Nat.le_refl _) ?c2) (by simp) ⟨bt,ot,none⟩ n' c' (ints lt) rfl (by have:=HN.out.1; simp [ints]; exact this) (HO.out.taken.news ?c3) (ints_one _) ?c5 ?c6 ?c7 ?_; (case c2 => ((try with_reducible apply blk_drew); (first | with_reducible assumption | (with_reducible refine heap_new' _ _ ?_; simp) | (with_reducible refine blk_alloc ?_ _; first | with_reducible assumption | (with_reducible refine heap_new' _ _ ?_; simp)) | (with_reducible refine blk_alloc ?_ _; with_reducible refine blk_alloc ?_ _; first | with_reducible assumption | (with_reducible refine heap_new' _ _ ?_; simp)) | (with_reducible refine blk_alloc ?_ _; with_reducible refine blk_alloc ?_ _; with_reducible refine blk_alloc ?_ _; first | with_reducible assumption | (with_reducible refine heap_new' _ _ ?_; simp))))); (case c3 => (refine HBV.out.trans (Below.mono (?_ : Below V.heap.size V _) (by omega)); (repeat' (first | with_reducible assumption | with_reducible exact Below.refl _ _ | with_reducible apply below_al | with_reducible apply below_drew)))); (case c5 => have:=HN.out.2; unfold maxLen; omega); (case c6 => have:=HN.out.2; omega); (case c7 => first | omega | (simp; done) | (simp; omega)); intro g2 c2 w2 hown2 hgr2 B2; simp only [Nat.zero_add,List.nil_append] at hown2; have BW:=(Below.trans (by (repeat' (first | with_reducible assumption | with_reducible exact Below.refl _ _ | with_reducible apply below_al | with_reducible apply below_drew))) B2 : Below V.heap.size V w2); have z2:=BW.size; have kl:=(BW.block _ zl).trans HKL.out; have kr:=(BW.block _ zr).trans HKR.out; have zl2:=blk_lt kl; have zr2:=blk_lt kr; have el:=blk_cell kl; have fl:=blk_frozen' kl; have HB2:=Lib.hid BW; have HO2:=Lib.hid hown2; clear hown2 hgr2 B2 BW kl kr)
  | (at_builtin; refine wpList_app _ rfl (.tmp 44) (.tmp 46) 23 rfl V.heap.size 3 i0 (.int .i64 0) 1 8 Tryd.underlying23 HH.out hz0 hz1 hz2 rfl (by decide) (.slice (some ⟨g2,0,none⟩) n' c2) n' (ints lt) rfl (row_keep HO2.out (λ b hb => Below.heap_alloc _ _ b hb)) (by simp) ⟨_,0,none⟩ 1 1 [.int .i64 X] rfl rfl (cell_one_new _ _ _) (by simp [Value.oneCell']) ?c5 ?c6 ?c7 ?_; (case c5 => have:=HN.out.2; unfold maxLen; omega); (case c6 => have:=HN.out.2; omega); (case c7 => first | omega | (simp; done) | (simp; omega)); intro g3 c3 w3 hown3 hgr3 B3; have BW:=(Below.trans (by have:=HB2.out; (repeat' (first | with_reducible assumption | with_reducible exact Below.refl _ _ | with_reducible apply below_al | with_reducible apply below_drew))) B3 : Below V.heap.size V w3); have z3:=BW.size; have kl:=(BW.block _ zl).trans HKL.out; have kr:=(BW.block _ zr).trans HKR.out; have zl3:=blk_lt kl; have zr3:=blk_lt kr; have el:=blk_cell kl; have fl:=blk_frozen' kl; have HB3:=Lib.hid BW; have HO3:=Lib.hid hown3; have HKL3:=Lib.hid kl; have HKR3:=Lib.hid kr; clear hown3 hgr3 B3 BW kl kr))
 have kl0:=blk_setCell (i:=3) HKL3.out (.slice (some ⟨g3,0,none⟩) (n' + 1) c3)
 have kr0:=(Chg.setCell (Chg.refl w.heap.size (w.heap.size + 1) w3) (p:=⟨w.heap.size,3,none⟩) (Nat.le_refl _) (Nat.lt_succ_self _) (.slice (some ⟨g3,0,none⟩) (n' + 1) c3)).block (w.heap.size + 1 + 1) (by omega) (by omega)
 have kr0:=kr0.trans HKR3.out
 have B0 : Below w.heap.size w (w3.setCell ⟨w.heap.size,3,none⟩ (.slice (some ⟨g3,0,none⟩) (n' + 1) c3)):=Below.chg (HBV.out.trans (HB3.out.mono (by omega))) (hi:=W.heap.size) (by (repeat' (first | with_reducible assumption | with_reducible exact Chg.refl _ _ _ | (with_reducible refine Chg.setCell ?_ (by first | omega | (simp; done) | (simp; omega)) (by first | omega | (simp; done) | (simp; omega)) _) | with_reducible apply Chg.alloc))) (Nat.le_refl _)
 have S10 : Slc (w3.setCell ⟨w.heap.size,3,none⟩ (.slice (some ⟨g3,0,none⟩) (n' + 1) c3)) W.heap.size V.heap.size 1 (some ⟨g1,0,none⟩) xs.length c1 (ints xs):=(HSV.out.belowHi HB3.out).chg (l':=w.heap.size) (h':=W.heap.size) (by (repeat' (first | with_reducible assumption | with_reducible exact Chg.refl _ _ _ | (with_reducible refine Chg.setCell ?_ (by first | omega | (simp; done) | (simp; omega)) (by first | omega | (simp; done) | (simp; omega)) _) | with_reducible apply Chg.alloc))) (.inr (Nat.le_refl _))
 have S30 : Slc (w3.setCell ⟨w.heap.size,3,none⟩ (.slice (some ⟨g3,0,none⟩) (n' + 1) c3)) V.heap.size w3.heap.size 1 (some ⟨g3,0,none⟩) (n' + 1) c3 (ints lt ++ [.int .i64 X]):=(row_slc HO3.out (by decide)).chg (l':=w.heap.size) (h':=W.heap.size) (by (repeat' (first | with_reducible assumption | with_reducible exact Chg.refl _ _ _ | (with_reducible refine Chg.setCell ?_ (by first | omega | (simp; done) | (simp; omega)) (by first | omega | (simp; done) | (simp; omega)) _) | with_reducible apply Chg.alloc))) (.inr zW)
 have sz : (w3.setCell ⟨w.heap.size,3,none⟩ (.slice (some ⟨g3,0,none⟩) (n' + 1) c3)).heap.size = w3.heap.size:=by simp
 rw [<- sz] at S30
 generalize w3.setCell ⟨w.heap.size,3,none⟩ (.slice (some ⟨g3,0,none⟩) (n' + 1) c3) = U at kl0 kr0 B0 S10 S30 sz ⊢
 have zV : V.heap.size <= U.heap.size:=by omega
 simp only [List.setIfInBounds_toArray,List.set_cons_succ,List.set_cons_zero] at kl0
 have HBU:=Lib.hid B0
 have HS1U:=Lib.hid (S10.wide (lo':=W.heap.size) (Nat.le_refl _) zV)
 have HS3U:=Lib.hid (S30.wide zW (Nat.le_refl _))
 have kl:=kl0
 have kr:=kr0
 have B : Below U.heap.size U U:=Below.refl _ _
 have zl:=blk_lt kl0
 have zr:=blk_lt kr0
 clear B0 S10 S30 sz kl0 kr0
 clear el fl
 have el:=blk_cell kl
 have er:=blk_cell kr
 have fr:=blk_frozen' kr
 have hX : X <= 100000000:=by omega
 have hll : (Lib.itoa (X : Int)).length <= 20:=by rw [Lib.itoa_nonneg]; exact dec_len hX
 go_region_with (first
  | (go_at_call 92; refine (l11Dec_any X hX _).mono ?_; rintro e W2 ⟨rfl,b2⟩; obtain ⟨kl,zl⟩:=blk_below b2 (by first | exact kl | (apply blk_drew; exact kl)); obtain ⟨kr,zr⟩:=blk_below b2 (by first | exact kr | (apply blk_drew; exact kr)); have el:=blk_cell kl; have er:=blk_cell kr; have fr:=blk_frozen' kr; have B:=below_step (by first | exact B | (apply below_drew; exact B)) b2))
 all_goals
  go_wp2
  have hF:=HF.out
  refine bodyPost_ret (v:=.tuple #[.agg #[.int .i64 r,.slice (some ⟨g1,0,none⟩) xs.length c1,.bool t,.slice (some ⟨g3,0,none⟩) (n' + 1) c3],.string ⟨(tTook X).toArray⟩]) ?_ rfl ⟨⟨r,some ⟨g1,0,none⟩,xs.length,c1,t,some ⟨g3,0,none⟩,n' + 1,c3⟩,?_,?_,?_,λ _ => ⟨⟨_,_,rfl⟩,⟨_,_,rfl⟩⟩⟩
  ·simp [results,Tryd.results59,go_sem,er,tTook,bytes_app]
  ·rw [hF]; rfl
  ·rw [hF]
   have e3:=ints_snoc lt (X : Int)
   exact ln_both (H:=W.heap.size) (a:=w.heap.size) rfl rfl ((HS1U.out.below B).wide (Nat.le_refl _) B.size) (((e3 ▸ HS3U.out : Slc U W.heap.size U.heap.size 1 (some ⟨g3,0,none⟩) (n' + 1) c3 (ints (lt ++ [(X : Int)]))).below B).wide (Nat.le_refl _) B.size) (λ b hb => hP b (by omega)) (by (repeat' (first | with_reducible assumption | with_reducible exact Chg.refl _ _ _ | (with_reducible refine Chg.setCell ?_ (by first | omega | (simp; done) | (simp; omega)) (by first | omega | (simp; done) | (simp; omega)) _) | with_reducible apply Chg.alloc)))
  ·exact Below.chg (HBU.out.trans (B.mono (by omega))) (hi:=W.heap.size) (by (repeat' (first | with_reducible assumption | with_reducible exact Chg.refl _ _ _ | (with_reducible refine Chg.setCell ?_ (by first | omega | (simp; done) | (simp; omega)) (by first | omega | (simp; done) | (simp; omega)) _) | with_reducible apply Chg.alloc))) (Nat.le_refl _)
theorem l1Done_any {lines : Int} (v : LnV) (l : Ln) (d : DeedD) (w : World) (P : Nat -> Prop) (h : LnOk w P v l) (hs : LnSmall l) (hd : deedP lines d) (hP : ∀ b,w.heap.size <= b -> P b) (hf : d.a ≠ 0 -> v.full) :
  Calls Tryd.prog 59 #[.agg #[.int .i64 v.room,.slice v.AH v.nH v.cH,.bool v.ended,.slice v.AT v.nT v.cT],.agg #[.string d.act,.int .i64 d.a,.int .i64 d.b]] w (DoneSays w P v l d):=by
 obtain ⟨ha,-⟩:=hd
 by_cases h0 : d.act.toList = lookA
 ·exact done_look v l d w P h hs h0
 by_cases h1 : d.a = 0
 ·exact done_never v l d w P h hs h0 h1
 by_cases h2 : d.act.toList = takeA /\ ¬ l.held = []
 ·exact done_take v l d w P h hs h1 h2.1 h2.2 hP (hf h1)
 have h2' : d.act.toList = takeA -> l.held = []:=λ h => Classical.byContradiction λ hn => h2 ⟨h,hn⟩
 cases he : l.ended with
 | true => exact done_ended v l d w P h hs h0 h1 h2' he
 | false =>
  by_cases h3 : d.act.toList = takeA
  ·exact done_empty v l d w P h hs h1 h3 (h2' h3) he
  by_cases h4 : d.act.toList = endA
  ·exact done_end v l d w P h hs h1 h4 he
  have h5 : d.act.toList = putA:=by
   rcases ha with h | h | h | h
   ·exact h
   ·exact absurd h h3
   ·exact absurd h h4
   ·exact absurd h h0
  by_cases h6 : l.room <= l.held.length
  ·exact done_full v l d w P h hs h1 h5 he h6
  ·exact done_put v l d w P h hs h1 h5 he h6 hP (hf h1)
end Go.Proofs.YtkfafknliihabaaDoor
namespace Go.Proofs.YtkfafknliihabaaDoor
open Go.RowKit
def lnCells (vs : List LnV) : List Value:=vs.flatMap LnV.cells
theorem lnCells_len (vs : List LnV) : (lnCells vs).length = vs.length * 4:=flat_len LnV.cells (s:=4) (λ _ => rfl) vs
theorem lnCells_get {vs : List LnV} {k : Nat} {v : LnV} (h : vs[k]? = some v) : (lnCells vs)[k * 4 + 0]? = some (.int .i64 v.room) /\ (lnCells vs)[k * 4 + 1]? = some (.slice v.AH v.nH v.cH) /\ (lnCells vs)[k * 4 + 2]? = some (.bool v.ended) /\ (lnCells vs)[k * 4 + 3]? = some (.slice v.AT v.nT v.cT):=by
 have g : ∀ i,i < 4 -> (lnCells vs)[k * 4 + i]? = (v.cells)[i]?:=λ i hi => by
  have:=flat_get LnV.cells (s:=4) (λ _ => rfl) vs k i hi
  rw [h] at this; exact this
 exact ⟨g 0 (by decide),g 1 (by decide),g 2 (by decide),g 3 (by decide)⟩
theorem info_line : (Tryd.prog.info? 102).map (λ i => (i.zero,i.size,i.bytes)) = some (some (.agg #[.int .i64 0,.slice none 0 0,.bool false,.slice none 0 0]),4,64):=by kernel_rfl
def v00 : LnV:=⟨0,none,0,0,false,none,0,0⟩
structure FreshV (v : LnV) (r : Int) : Prop where
 room : v.room = r
 nH : v.nH = 0
 cH : v.cH = 0
 ended : v.ended = false
 nT : v.nT = 0
 cT : v.cT = 0
theorem FreshV.ok {v : LnV} {r : Int} (h : FreshV v r) (w : World) (P : Nat -> Prop) : LnOk w P v ⟨r,[],false,[]⟩:=by
 obtain ⟨a,b,c,d,e,f,g,i⟩:=v
 obtain ⟨rfl,rfl,rfl,rfl,rfl,rfl⟩:=h
 exact ⟨rfl,rfl,⟨rfl,Nat.le_refl _,Nat.zero_le _,λ h => absurd h (by simp)⟩,⟨rfl,Nat.le_refl _,Nat.zero_le _,λ h => absurd h (by simp)⟩,λ _ _ h => absurd h (by simp),λ _ _ h => absurd h (by simp)⟩
structure OpenVs (vs : List LnV) (rs : List Int) : Prop where
 len : vs.length = rs.length + 1
 head : vs[0]? = some v00
 rest : ∀ j r,rs[j]? = some r -> ∃ v,vs[j + 1]? = some v /\ FreshV v r /\ v.full
theorem OpenVs.snoc {vs : List LnV} {rs : List Int} (h : OpenVs vs rs) {v : LnV} {r : Int} (hv : FreshV v r) (hf : v.full) : OpenVs (vs ++ [v]) (rs ++ [r]):=by
 refine ⟨by simp [h.len],?_,λ j q hq => ?_⟩
 ·rw [List.getElem?_append_left (by rw [h.len]; omega)]; exact h.head
 ·rcases Nat.lt_or_ge j rs.length with hj | hj
  ·rw [List.getElem?_append_left hj] at hq
   obtain ⟨u,hu,hu2⟩:=h.rest j q hq
   exact ⟨u,by rw [List.getElem?_append_left (by rw [h.len]; omega)]; exact hu,hu2⟩
  ·have hj' : j = rs.length:=by have:=(List.getElem?_eq_some_iff.1 hq).1; simp at this; omega
   subst hj'
   have hq' : r = q:=by simpa using hq
   subst hq'
   exact ⟨v,by rw [<- h.len]; simp,hv,hf⟩
theorem OpenVs.lns {vs : List LnV} {rs : List Int} (h : OpenVs vs rs) (w : World) (P : Nat -> Prop) : ∀ i v l,vs[i]? = some v -> (openF rs)[i]? = some l -> LnOk w P v l /\ (0 < i -> v.full):=by
 intro i v l hv hl
 cases i with
 | zero =>
  rw [h.head] at hv
  have e1 : v00 = v:=by simpa using hv
  have e2 : (⟨0,[],false,[]⟩ : Ln) = l:=by simpa [openF] using hl
  subst e1 e2
  exact ⟨FreshV.ok ⟨rfl,rfl,rfl,rfl,rfl,rfl⟩ w P,λ h => absurd h (by omega)⟩
 | succ j =>
  have : ∃ r,rs[j]? = some r /\ l = ⟨r,[],false,[]⟩:=by
   unfold openF at hl
   rw [List.getElem?_cons_succ,List.getElem?_map] at hl
   cases hr : rs[j]? with
   | none => rw [hr] at hl; cases hl
   | some r => rw [hr] at hl; exact ⟨r,rfl,by simpa using hl.symm⟩
  obtain ⟨r,hr,rfl⟩:=this
  obtain ⟨u,hu,hu1,hu2⟩:=h.rest j r hr
  rw [hu] at hv
  have e : u = v:=by simpa using hv
  subst e
  exact ⟨hu1.ok w P,λ _ => hu2⟩
theorem lnCells_snoc (vs : List LnV) (v : LnV) : lnCells (vs ++ [v]) = lnCells vs ++ v.cells:=by simp [lnCells]
theorem take_snoc' {α : Type} {l : List α} {k : Nat} {a : α} (h : l[k]? = some a) : l.take (k + 1) = l.take k ++ [a]:=by
 obtain ⟨hk,e⟩:=List.getElem?_eq_some_iff.1 h
 rw [List.take_succ_eq_append_getElem hk,e]
set_option maxRecDepth 20000 in
set_option maxHeartbeats 2000000 in
theorem l1Open_any (lo hi n c : Nat) (A : Option Addr) (rs : List Int) (w : World) (h : Slc w lo hi 1 A n c (ints rs)) (hn : n <= 6) :
  Calls Tryd.prog 58 #[.slice A n c] w λ e w' => ∃ g cl vs,e = .returned (.slice (some ⟨g,0,none⟩) (rs.length + 1) cl) /\ w'.ownsRow w.heap.size 102 4 (.slice (some ⟨g,0,none⟩) (rs.length + 1) cl) (rs.length + 1) (lnCells vs) /\ OpenVs vs rs /\ Below w.heap.size w w':=by
 have hl:=Lib.hid h.length
 obtain ⟨i0,hi0,hz0,hz1,hz2⟩:=info_parts info_line
 have HI:=Lib.hid (And.intro hi0 (And.intro hz0 (And.intro hz1 hz2)))
 clear hi0 hz0 hz1 hz2
 go_enter Tryd.func58, Tryd.ntmps58
 go_wp2
 go_loopw [3,4] (λ v i wr => ∃ (k g cl : Nat) (vs : List LnV),k <= n /\ i = .int .i64 k /\ v = .slice (some ⟨g,0,none⟩) (k + 1) cl /\ Below w.heap.size w wr /\ wr.ownsRow w.heap.size 102 4 (.slice (some ⟨g,0,none⟩) (k + 1) cl) (k + 1) (lnCells vs) /\ OpenVs vs (rs.take k)) (λ _ i _ => n - (intOf i).toNat)
 case atStart =>
  refine ⟨0,w.heap.size,1,[v00],Nat.zero_le _,rfl,rfl,below_al (Below.refl _ _) _,⟨rfl,.inr ⟨_,_,_,rfl,Nat.le_refl _,heap_alloc_new _ _,Nat.le_refl _,by unfold maxLen; omega,rfl,rfl⟩⟩,⟨by simp,rfl,λ j r hj => by simp at hj⟩⟩
 case round =>
  obtain ⟨k,g,cl,vs,hk,rfl,rfl,B,hown,hv⟩:=hrel
  have HOW:=Lib.hid hown
  have HV:=Lib.hid hv
  have HB:=Lib.hid B
  clear hown hv
  by_cases hlt : k < n
  ·obtain ⟨b,off,x,rfl,_,_,h3,hxk,hv0⟩:=h.cellAt hlt
   have hv:=(B.cell (p:=⟨b,off + k,none⟩) h3).trans hv0
   have HX:=Lib.hid hxk
   have s0:=B.size
   clear hxk h hv0 B
   obtain ⟨hi0,hz0,hz1,hz2⟩:=HI.out
   have HH:=Lib.hid hi0
   clear hi0
   go_wp2_with (at_builtin; refine wpList_app _ rfl (.tmp 13) (.tmp 21) 64 rfl w.heap.size 102 i0 (.agg #[.int .i64 0,.slice none 0 0,.bool false,.slice none 0 0]) 4 64 Tryd.underlying64 HH.out hz0 hz1 hz2 rfl (by decide) (.slice (some ⟨g,0,none⟩) (k + 1) cl) (k + 1) (lnCells vs) rfl (row_keep HOW.out ?c1) (by simp) ⟨_,0,none⟩ 1 1 (LnV.cells ⟨x,some ⟨wr.heap.size,0,none⟩,0,0,false,some ⟨wr.heap.size + 1,0,none⟩,0,0⟩) rfl rfl ?c2 (by intro u hu; simp [LnV.cells] at hu; rcases hu with rfl | rfl | rfl | rfl <;> rfl) ?c5 ?c6 ?c7 ?_; (case c1 => (intro b hb; have:=((below_al (below_al (below_al (Below.refl wr.heap.size wr) (.cells #[] 3)) (.cells #[] 3)) (.cells (LnV.cells ⟨x,some ⟨wr.heap.size,0,none⟩,0,0,false,some ⟨wr.heap.size + 1,0,none⟩,0,0⟩).toArray 102)).block b hb); exact this)); (case c2 => exact World.news_of_block (cs:=(LnV.cells ⟨x,some ⟨wr.heap.size,0,none⟩,0,0,false,some ⟨wr.heap.size + 1,0,none⟩,0,0⟩).toArray) (heap_new' _ _ (by simp))); (case c5 => unfold maxLen; omega); (case c6 => omega); (case c7 => (simp; omega)); intro g1 c1 w1 hown1 hgr1 B1; have HO1:=Lib.hid hown1; have HB1:=Lib.hid B1; clear hown1 hgr1 B1)
   go_roundw
   case rel =>
    refine ⟨k + 1,g1,c1,vs ++ [⟨x,some ⟨wr.heap.size,0,none⟩,0,0,false,some ⟨wr.heap.size + 1,0,none⟩,0,0⟩],by omega,by go_num,rfl,Below.trans (below_al (below_al (below_al HB.out _) _) _) HB1.out,by rw [lnCells_snoc]; exact HO1.out,?_⟩
    rw [take_snoc' HX.out]
    exact HV.out.snoc ⟨rfl,rfl,rfl,rfl,rfl,rfl⟩ ⟨⟨_,_,rfl⟩,⟨_,_,rfl⟩⟩
   case measure => simp [intOf]; omega
  ·have e : k = n:=by omega
   subst e
   clear h
   go_wp2
   go_ret
   have hv:=HV.out
   rw [List.take_of_length_le (by rw [hl.out]; omega)] at hv
   exact ⟨g,cl,vs,by rw [hl.out]; simp,by rw [hl.out]; exact HOW.out,hv,B⟩
end Go.Proofs.YtkfafknliihabaaDoor
namespace Go.Proofs.YtkfafknliihabaaDoor
open Go.RowKit
theorem LnOk.keep {w w' : World} {P Q : Nat -> Prop} {v : LnV} {l : Ln} (h : LnOk w P v l) (hs : w.heap.size <= w'.heap.size) (k : ∀ b,P b -> b < w.heap.size -> w'.heap[b]? = w.heap[b]?) (hQ : ∀ b,P b -> b < w.heap.size -> Q b) : LnOk w' Q v l:=by
 have z : ∀ {A : Option Addr} {n c : Nat} {xs : List Value},Slc w 0 w.heap.size 1 A n c xs -> (∀ b off,0 < n -> A = some ⟨b,off,none⟩ -> P b) -> Slc w' 0 w'.heap.size 1 A n c xs /\ (∀ b off,0 < n -> A = some ⟨b,off,none⟩ -> Q b):=by
  intro A n c xs s hp
  refine ⟨⟨s.len,s.le,s.cap,λ hn => ?_⟩,λ b off hn e => ?_⟩
  ·obtain ⟨b,off,e,h1,h2,h3,h4⟩:=s.at_ hn
   exact ⟨b,off,e,h1,Nat.lt_of_lt_of_le h3 hs,Nat.lt_of_lt_of_le h3 hs,λ j v hv => (World.cell?_of_block (k b (hp b off hn e) h3)).trans (h4 j v hv)⟩
  ·obtain ⟨b',off',e',h1,h2,h3,h4⟩:=s.at_ hn
   rw [e] at e'; injection e' with e'; injection e' with e1 e2; subst e1
   exact hQ b (hp b off hn e) h3
 exact ⟨h.room,h.ended,(z h.held h.heldP).1,(z h.taken h.takenP).1,(z h.held h.heldP).2,(z h.taken h.takenP).2⟩
def RunSmall (k : Nat) (s : List Ln × List (List UInt8)) : Prop:=∀ l ∈ s.1,l.held.length <= k /\ l.taken.length <= k /\ ∀ x ∈ l.held,0 <= x /\ x <= 1000
theorem doneF_small {lines : Int} {k : Nat} {l : Ln} {d : DeedD} (hd : deedP lines d) (h : l.held.length <= k /\ l.taken.length <= k /\ ∀ x ∈ l.held,0 <= x /\ x <= 1000) :
  (doneF l d).1.held.length <= k + 1 /\ (doneF l d).1.taken.length <= k + 1 /\ ∀ x ∈ (doneF l d).1.held,0 <= x /\ x <= 1000:=by
 obtain ⟨h1,h2,h3⟩:=h
 obtain ⟨-,-,-,d4,d5,-⟩:=hd
 unfold doneF
 split
 ·exact ⟨Nat.le_succ_of_le h1,Nat.le_succ_of_le h2,h3⟩
 split
 ·exact ⟨Nat.le_succ_of_le h1,Nat.le_succ_of_le h2,h3⟩
 split
 ·next x xs hx =>
  rw [hx] at h1 h3
  simp only [List.length_cons,List.length_append,List.length_nil] at h1 ⊢
  exact ⟨by omega,by omega,λ y hy => h3 y (List.mem_cons_of_mem _ hy)⟩
 ·split
  ·exact ⟨Nat.le_succ_of_le h1,Nat.le_succ_of_le h2,h3⟩
  split
  ·exact ⟨Nat.le_succ_of_le h1,Nat.le_succ_of_le h2,h3⟩
  split
  ·exact ⟨Nat.le_succ_of_le h1,Nat.le_succ_of_le h2,h3⟩
  split
  ·exact ⟨Nat.le_succ_of_le h1,Nat.le_succ_of_le h2,h3⟩
  ·simp only [List.length_append,List.length_cons,List.length_nil]
   exact ⟨by omega,by omega,λ y hy => by
    rcases List.mem_append.1 hy with hy | hy
    ·exact h3 y hy
    ·rw [List.mem_singleton] at hy; subst hy; exact ⟨d4,d5⟩⟩
theorem stepF_small {lines : Int} {k : Nat} {s : List Ln × List (List UInt8)} {d : DeedD} (hd : deedP lines d) (h : RunSmall k s) : RunSmall (k + 1) (stepF s d):=by
 intro l hl
 unfold stepF at hl
 rcases List.mem_or_eq_of_mem_set hl with hl | rfl
 ·obtain ⟨h1,h2,h3⟩:=h l hl
  exact ⟨by omega,by omega,h3⟩
 ·refine doneF_small hd ?_
  rw [List.getD_eq_getElem?_getD]
  cases hq : s.1[d.a.toNat]? with
  | none => exact ⟨by simp,by simp,by simp⟩
  | some l => exact h l (List.mem_of_getElem? hq)
theorem runF_small {rooms : List Int} {ds : List DeedD} (hd : ∀ d ∈ ds,deedP rooms.length d) : ∀ k,RunSmall k (runF rooms (ds.take k)):=by
 intro k
 induction k with
 | zero =>
  intro l hl
  unfold runF at hl
  simp only [List.take_zero,List.foldl_nil] at hl
  unfold openF at hl
  rcases List.mem_cons.1 hl with rfl | hl
  ·simp
  ·obtain ⟨r,_,rfl⟩:=List.mem_map.1 hl; simp
 | succ k ih =>
  cases hk : ds[k]? with
  | none =>
   have hk':=List.getElem?_eq_none_iff.1 hk
   rw [List.take_of_length_le (by omega)] at ih ⊢
   intro l hl
   obtain ⟨h1,h2,h3⟩:=ih l hl
   exact ⟨by omega,by omega,h3⟩
  | some d => rw [runF_take hk]; exact stepF_small (hd d (List.mem_of_getElem? hk)) ih
structure RunSt (w0 wr : World) (gl cl go co : Nat) (N k : Nat) (vs : List LnV) (s : List Ln × List (List UInt8)) : Prop where
 B : Below w0.heap.size w0 wr
 out : wr.ownsRow w0.heap.size 9 1 (.slice (some ⟨go,0,none⟩) k co) k (txts s.2)
 ne : go ≠ gl
 lines : wr.ownsRow w0.heap.size 102 4 (.slice (some ⟨gl,0,none⟩) N cl) N (lnCells vs)
 len : s.1.length = N
 lns : ∀ (i : Nat) v l,vs[i]? = some v -> s.1[i]? = some l -> LnOk wr (λ b => w0.heap.size <= b /\ b ≠ go /\ b ≠ gl) v l /\ (0 < i -> v.full)
theorem row_blk {E s : Nat} {w : World} {base g n c : Nat} {xs : List Value} (h : w.ownsRow base E s (.slice (some ⟨g,0,none⟩) n c) n xs) : base <= g /\ ∃ cs,w.heap[g]? = some (.cells cs E) /\ n <= c /\ c <= maxLen /\ cs.size = c * s /\ cs.toList.take (n * s) = xs:=by
 obtain ⟨_,h | ⟨g',cap,cur,e,h1,h2,h3,h4,h5,h6⟩⟩:=h
 ·cases h.1
 ·injection e with e1 e2 e3; injection e1 with e1; injection e1 with e1 _; subst e1 e3
  exact ⟨h1,cur,h2,h3,h4,h5,h6⟩
theorem row_cells {E s : Nat} {w : World} {base g n c : Nat} {xs : List Value} (h : w.ownsRow base E s (.slice (some ⟨g,0,none⟩) n c) n xs) {j : Nat} {v : Value} (hj : xs[j]? = some v) : w.cell? ⟨g,j,none⟩ = some v:=by
 obtain ⟨_,cs,h2,h3,_,h5,h6⟩:=row_blk h
 rw [blk_cell h2]
 have hl:=h.1
 have hj':=(List.getElem?_eq_some_iff.1 hj).1
 rw [<- h6] at hj
 rw [List.getElem?_take_of_lt (by omega)] at hj
 simpa using hj
theorem info_string : (Tryd.prog.info? 9).map (λ i => (i.zero,i.size,i.bytes)) = some (some (.string ⟨#[]⟩),1,16):=by kernel_rfl
theorem held7_below {w W W' : World} {B : Nat} {a0 a1 a2 b0 b1 b2 b3 : Addr} {v0 v1 v2 u0 u1 u2 u3 : Value} (hb : Below W.heap.size W W') (hB : B <= w.heap.size)
  (h : W.cell? a0 = some v0 /\ W.cell? a1 = some v1 /\ W.cell? a2 = some v2 /\ W.cell? b0 = some u0 /\ W.cell? b1 = some u1 /\ W.cell? b2 = some u2 /\ W.cell? b3 = some u3 /\ Below w.heap.size w W) :
  W'.cell? a0 = some v0 /\ W'.cell? a1 = some v1 /\ W'.cell? a2 = some v2 /\ W'.cell? b0 = some u0 /\ W'.cell? b1 = some u1 /\ W'.cell? b2 = some u2 /\ W'.cell? b3 = some u3 /\ Below w.heap.size w W':=by
 have e : ∀ {a : Addr} {v : Value},W.cell? a = some v -> W'.cell? a = some v:=λ {a v} hv => (World.cell?_of_block (hb.block _ (World.block_lt_of_cell? W _ hv))).trans hv
 exact ⟨e h.1,e h.2.1,e h.2.2.1,e h.2.2.2.1,e h.2.2.2.2.1,e h.2.2.2.2.2.1,e h.2.2.2.2.2.2.1,below_step h.2.2.2.2.2.2.2 hb⟩
theorem bw7 {w W W' : World} {a0 a1 a2 b0 b1 b2 b3 : Addr} {v0 v1 v2 u0 u1 u2 u3 : Value} (hb : Below W.heap.size W W')
  (h : W.cell? a0 = some v0 /\ W.cell? a1 = some v1 /\ W.cell? a2 = some v2 /\ W.cell? b0 = some u0 /\ W.cell? b1 = some u1 /\ W.cell? b2 = some u2 /\ W.cell? b3 = some u3 /\ Below w.heap.size w W) : Below w.heap.size w W':=below_step h.2.2.2.2.2.2.2 hb
theorem LnOk.set {w w' : World} {P : Nat -> Prop} {g : Nat} {v : LnV} {l : Ln} (h : LnOk w (λ b => P b /\ b ≠ g) v l) (hk : Chg g (g + 1) w w') : LnOk w' P v l:=
 h.keep hk.size (λ b hb hlt => hk.block b hlt (by have:=hb.2; omega)) (λ b hb _ => hb.1)
theorem LnOk.alloc {w : World} {P : Nat -> Prop} {v : LnV} {l : Ln} (h : LnOk w P v l) (o : Obj) : LnOk (w.alloc o) P v l:=
 h.keep (by simp) (λ b _ hb => Below.heap_alloc w o b hb) (λ _ h _ => h)
theorem ok_held7 {w W : World} {P Q : Nat -> Prop} {v : LnV} {l : Ln} {a0 a1 a2 b0 b1 b2 b3 : Addr} {v0 v1 v2 u0 u1 u2 u3 : Value}
  (h : W.cell? a0 = some v0 /\ W.cell? a1 = some v1 /\ W.cell? a2 = some v2 /\ W.cell? b0 = some u0 /\ W.cell? b1 = some u1 /\ W.cell? b2 = some u2 /\ W.cell? b3 = some u3 /\ Below w.heap.size w W) (ok : LnOk w P v l) (hQ : ∀ b,P b -> b < w.heap.size -> Q b) : LnOk W Q v l:=
 ok.keep h.2.2.2.2.2.2.2.size (λ b _ hb => h.2.2.2.2.2.2.2.block b hb) hQ
theorem blk_set4 {w : World} {N : Nat} {a b c d x0 x1 x2 x3 : Value} {T : TypeId} (h : w.heap[N]? = some (.cells #[a,b,c,d] T)) :
  ((((w.setCell ⟨N,0,none⟩ x0).setCell ⟨N,1,none⟩ x1).setCell ⟨N,2,none⟩ x2).setCell ⟨N,3,none⟩ x3).heap[N]? = some (.cells #[x0,x1,x2,x3] T):=by
 have:=blk_setCell (i:=3) (blk_setCell (i:=2) (blk_setCell (i:=1) (blk_setCell (i:=0) h x0) x1) x2) x3
 simpa using this
theorem held7_of {w W' : World} {a0 a1 a2 b0 b1 b2 b3 : Addr} {v0 v1 v2 u0 u1 u2 u3 : Value}
  (h : w.cell? a0 = some v0 /\ w.cell? a1 = some v1 /\ w.cell? a2 = some v2 /\ w.cell? b0 = some u0 /\ w.cell? b1 = some u1 /\ w.cell? b2 = some u2 /\ w.cell? b3 = some u3 /\ Below w.heap.size w w) (hb : Below w.heap.size w W') :
  W'.cell? a0 = some v0 /\ W'.cell? a1 = some v1 /\ W'.cell? a2 = some v2 /\ W'.cell? b0 = some u0 /\ W'.cell? b1 = some u1 /\ W'.cell? b2 = some u2 /\ W'.cell? b3 = some u3 /\ Below w.heap.size w W':=
 held7_below hb (Nat.le_refl _) h
end Go.Proofs.YtkfafknliihabaaDoor
namespace Go.Proofs.YtkfafknliihabaaDoor
open Go.RowKit
theorem row_set {E s : Nat} {w : World} {base g n c j : Nat} {xs : List Value} (h : w.ownsRow base E s (.slice (some ⟨g,0,none⟩) n c) n xs) (v : Value) :
  (w.setCell ⟨g,j,none⟩ v).ownsRow base E s (.slice (some ⟨g,0,none⟩) n c) n (xs.set j v):=by
 obtain ⟨h1,cs,h2,h3,h4,h5,h6⟩:=row_blk h
 refine ⟨by rw [List.length_set]; exact h.1,.inr ⟨g,c,cs.setIfInBounds j v,rfl,h1,blk_setCell h2 v,h3,h4,by rw [Array.size_setIfInBounds]; exact h5,?_⟩⟩
 rw [<- h6,Array.toList_setIfInBounds,List.take_set]
theorem lnCells_cons (v : LnV) (vs : List LnV) : lnCells (v :: vs) = .int .i64 v.room :: .slice v.AH v.nH v.cH :: .bool v.ended :: .slice v.AT v.nT v.cT :: lnCells vs:=rfl
theorem lnCells_set (u : LnV) : ∀ (vs : List LnV) (L : Nat),L < vs.length ->
  lnCells (vs.set L u) = ((((lnCells vs).set (L * 4) (.int .i64 u.room)).set (L * 4 + 1) (.slice u.AH u.nH u.cH)).set (L * 4 + 2) (.bool u.ended)).set (L * 4 + 3) (.slice u.AT u.nT u.cT)
 | v :: vs,0,_ => by simp [lnCells_cons]
 | v :: vs,L + 1,h => by
  rw [List.set_cons_succ,lnCells_cons,lnCells_cons,lnCells_set u vs L (by simpa using h)]
  rw [show (L + 1) * 4 = L * 4 + 1 + 1 + 1 + 1 by omega]
  simp [List.set_cons_succ]
theorem row_at {E s : Nat} {w w' : World} {base g n c : Nat} {xs : List Value} (h : w.ownsRow base E s (.slice (some ⟨g,0,none⟩) n c) n xs) (hb : w'.heap[g]? = w.heap[g]?) : w'.ownsRow base E s (.slice (some ⟨g,0,none⟩) n c) n xs:=by
 obtain ⟨h1,cs,h2,h3,h4,h5,h6⟩:=row_blk h
 exact ⟨h.1,.inr ⟨g,c,cs,rfl,h1,hb.trans h2,h3,h4,h5,h6⟩⟩
theorem txts_snoc (ss : List (List UInt8)) (x : List UInt8) : txts (ss ++ [x]) = txts ss ++ [.string ⟨x.toArray⟩]:=by simp [txts,txt]
theorem RunSt.step {w wr wc Wd X w2 : World} {gl cl go co N k L g2 c2 : Nat} {vs : List LnV} {s : List Ln × List (List UInt8)} {l : Ln} {v' : LnV} {d : DeedD} (St : RunSt w wr gl cl go co N k vs s)
  (hL : d.a.toNat = L) (hLN : L < N) (hvl : vs.length = N) (hl : s.1[L]? = some l) (Bc : Below wr.heap.size wr wc) (okD : LnOk wc (λ b => w.heap.size <= b /\ b ≠ go /\ b ≠ gl) v' (doneF l d).1) (hf : 0 < L -> v'.full)
  (hWd : Wd = (((wc.setCell ⟨gl,L * 4,none⟩ (.int .i64 v'.room)).setCell ⟨gl,L * 4 + 1,none⟩ (.slice v'.AH v'.nH v'.cH)).setCell ⟨gl,L * 4 + 2,none⟩ (.bool v'.ended)).setCell ⟨gl,L * 4 + 3,none⟩ (.slice v'.AT v'.nT v'.cT))
  (hX : Below Wd.heap.size Wd X) (hgr : X.grownBy w2 (some go)) (hat : go = g2 \/ g2 = X.heap.size)
  (hown : w2.ownsRow w.heap.size 9 1 (.slice (some ⟨g2,0,none⟩) (k + 1) c2) (k + 1) (txts s.2 ++ [.string ⟨(doneF l d).2.toArray⟩])) : RunSt w w2 gl cl g2 c2 N (k + 1) (vs.set L v') (stepF s d):=by
 have hsz : Wd.heap.size = wc.heap.size:=by rw [hWd]; simp
 have hk : Chg gl (gl + 1) wc Wd:=by rw [hWd]; (repeat' (first | with_reducible assumption | with_reducible exact Chg.refl _ _ _ | (with_reducible refine Chg.setCell ?_ (by first | omega | (simp; done) | (simp; omega)) (by first | omega | (simp; done) | (simp; omega)) _) | with_reducible apply Chg.alloc))
 obtain ⟨gl1,csl,kgl,_⟩:=row_blk St.lines
 have zgl:=blk_lt kgl
 obtain ⟨go1,cso,kgo,_⟩:=row_blk St.out
 have zgo:=blk_lt kgo
 have zc:=Bc.size
 have zX:=hX.size
 have ne:=St.ne
 have lw : Wd.ownsRow w.heap.size 102 4 (.slice (some ⟨gl,0,none⟩) N cl) N (lnCells (vs.set L v')):=by
  rw [lnCells_set v' vs L (by omega),hWd]
  exact row_set (row_set (row_set (row_set (row_below' St.lines Bc) _) _) _) _
 have tr : ∀ {v : LnV} {l : Ln},LnOk wc (λ b => w.heap.size <= b /\ b ≠ go /\ b ≠ gl) v l -> LnOk w2 (λ b => w.heap.size <= b /\ b ≠ g2 /\ b ≠ gl) v l:=by
  intro v l ok
  have ok2 : LnOk X (λ b => w.heap.size <= b /\ b ≠ go /\ b ≠ gl) v l:=
   (ok.keep (Q:=λ b => w.heap.size <= b /\ b ≠ go /\ b ≠ gl) hk.size (λ b hb hlt => hk.block b hlt (by have:=hb.2.2; omega)) (λ _ h _ => h)).below hX
  refine ok2.keep hgr.size (λ b hb hlt => hgr.block b hlt (by intro e; injection e with e; exact hb.2.1 e)) (λ b hb hlt => ⟨hb.1,?_,hb.2.2⟩)
  rcases hat with e | e
  ·rw [<- e]; exact hb.2.1
  ·omega
 have hge : s.1.getD L ⟨0,[],false,[]⟩ = l:=by rw [List.getD_eq_getElem?_getD,hl]; rfl
 have hstep : stepF s d = (s.1.set L (doneF l d).1,s.2 ++ [(doneF l d).2]):=by unfold stepF; rw [hL,hge]
 refine ⟨?_,by rw [hstep]; simp only; rw [txts_snoc]; exact hown,?_,?_,by rw [stepF_len]; exact St.len,?_⟩
 ·have b1 : Below w.heap.size w Wd:=(St.B.trans (Bc.mono St.B.size)).trans (hk.below gl1 (by have:=St.B.size; omega))
  have b2 : Below w.heap.size w X:=below_step b1 hX
  exact b2.trans ⟨hgr.os,hgr.tape,hgr.output,hgr.size,λ i hi => hgr.block i (Nat.lt_of_lt_of_le hi b2.size) (by intro e; injection e with e; omega)⟩
 ·rcases hat with e | e <;> omega
 ·exact row_at (row_below' lw hX) (hgr.block gl (by omega) (by intro e; injection e with e; omega))
 ·intro i v l' hv hl'
  rw [hstep] at hl'
  simp only at hl'
  by_cases hi : i = L
  ·subst hi
   rw [List.getElem?_set_self (by omega)] at hv
   rw [List.getElem?_set_self (by rw [St.len]; omega)] at hl'
   injection hv with hv; injection hl' with hl'
   subst hv hl'
   exact ⟨tr okD,hf⟩
  ·rw [List.getElem?_set_ne (by omega)] at hv hl'
   obtain ⟨ok,hf'⟩:=St.lns i v l' hv hl'
   exact ⟨tr (ok.below Bc),hf'⟩
end Go.Proofs.YtkfafknliihabaaDoor
namespace Go.Proofs.YtkfafknliihabaaDoor
open Go.RowKit
def RunSays (w : World) (rooms : List Int) (ds : List DeedD) (e : Ending) (w' : World) : Prop:=
 ∃ gl cl go co vs,e = .returned (.tuple #[.slice (some ⟨gl,0,none⟩) (rooms.length + 1) cl,.slice (some ⟨go,0,none⟩) ds.length co]) /\ RunSt w w' gl cl go co (rooms.length + 1) ds.length vs (runF rooms ds)
theorem lns_len {w : World} {base g c N : Nat} {vs : List LnV} (h : w.ownsRow base 102 4 (.slice (some ⟨g,0,none⟩) N c) N (lnCells vs)) : vs.length = N:=by
 have:=h.1; rw [lnCells_len] at this; omega
set_option maxRecDepth 20000 in
set_option maxHeartbeats 4000000 in
theorem l1Run_any (lo hi n c lo2 hi2 m c2 : Nat) (A A2 : Option Addr) (rooms : List Int) (ds : List DeedD) (w : World) (h : Slc w lo hi 1 A n c (ints rooms)) (h2 : Slc w lo2 hi2 3 A2 m c2 (deeds ds)) (hd : deedsB rooms ds = true) :
  Calls Tryd.prog 36 #[.slice A n c,.slice A2 m c2] w (RunSays w rooms ds):=by
 obtain ⟨⟨r1,r6⟩,hr,d60,hdp⟩:=deedsB_of hd
 have hln:=h.length
 have hlm:=h2.deedLen
 have HDP:=Lib.hid hdp
 have HSM:=Lib.hid (runF_small hdp)
 have HLM:=Lib.hid hlm
 have hm60 : m <= 60:=by omega
 obtain ⟨N,hN⟩ : ∃ N,N = rooms.length + 1:=⟨_,rfl⟩
 have HN:=Lib.hid hN
 have HNN:=Lib.hid hln
 have hn6 : n <= 6:=by omega
 clear hdp hr hd hN hln hlm
 obtain ⟨i0,hi0,hz0,hz1,hz2⟩:=info_parts info_string
 have HI:=Lib.hid (And.intro hi0 (And.intro hz0 (And.intro hz1 hz2)))
 clear hi0 hz0 hz1 hz2
 go_enter Tryd.func36, Tryd.ntmps36
 go_wp2_with fail
 refine (l1Open_any lo hi n c A rooms _ h hn6).mono ?_
 rintro e w1 ⟨gl,cl,vs0,rfl,hown0,hopen,B0⟩
 rw [<- HN.out] at hown0 ⊢
 have HO0:=Lib.hid hown0
 have HOP:=Lib.hid hopen
 have HB0:=Lib.hid B0
 have z0:=B0.size
 clear hown0 hopen B0 h
 go_wp2_with fail
 go_loopw [7,8,9,10] (λ v i _ _ wr => ∃ (k go co : Nat) (vs : List LnV),k <= m /\ i = .int .i64 k /\ v = .slice (some ⟨go,0,none⟩) k co /\ RunSt w wr gl cl go co N k vs (runF rooms (ds.take k))) (λ _ i _ _ _ => m - (intOf i).toNat)
 case atStart =>
  have hgl:=(row_blk HO0.out)
  obtain ⟨hgl1,cs,hgl2,_⟩:=hgl
  have hgz:=blk_lt hgl2
  refine ⟨0,w1.heap.size,0,vs0,Nat.zero_le _,rfl,rfl,?_⟩
  have hb:=below_al (o:=.cells #[] 9) (Below.refl w1.heap.size w1)
  exact ⟨HB0.out.trans (hb.mono z0),row_empty (by omega) (heap_alloc_new _ _),by omega,row_below' HO0.out (below_al (Below.refl _ _) _),by rw [HN.out]; simp [runF,openF],HOP.out.lns _ _⟩
 case round =>
  obtain ⟨k,go,co,vs,hk,rfl,rfl,St⟩:=hrel
  by_cases hlt : k < m
  ·obtain ⟨b,off,d,hA,_,_,h3,hxk,hv0,hv1,hv2⟩:=(h2.below St.B).deedAt hlt
   subst hA
   obtain ⟨p1,p2,p3,p4,p5,p6⟩:=HDP.out d (List.mem_of_getElem? hxk)
   obtain ⟨s,x,y⟩:=d
   obtain ⟨L,hL⟩:=Int.eq_ofNat_of_zero_le p2
   have hL' : x = (L : Int):=hL
   subst hL'
   have hLN : L < N:=by have:=HN.out; simp only at p3; omega
   have hvl:=lns_len St.lines
   obtain ⟨v,hv⟩ : ∃ v,vs[L]? = some v:=⟨_,List.getElem?_eq_getElem (by omega)⟩
   obtain ⟨l,hl⟩ : ∃ l,(runF rooms (ds.take k)).1[L]? = some l:=⟨_,List.getElem?_eq_getElem (by rw [St.len]; exact hLN)⟩
   obtain ⟨ok,okf⟩:=St.lns L v l hv hl
   obtain ⟨g0,g1,g2,g3⟩:=lnCells_get hv
   have c0:=row_cells St.lines g0
   have c1:=row_cells St.lines g1
   have c2':=row_cells St.lines g2
   have c3:=row_cells St.lines g3
   obtain ⟨s1,s2,s3⟩:=HSM.out k l (List.mem_of_getElem? hl)
   have sm : LnSmall l:=⟨by omega,by omega,s3⟩
   have S0:=And.intro hv0 (And.intro hv1 (And.intro hv2 (And.intro c0 (And.intro c1 (And.intro c2' (And.intro c3 (Below.refl wr.heap.size wr)))))))
   simp only [Nat.add_zero] at S0
   have HX:=Lib.hid hxk
   have HP:=Lib.hid (show deedP rooms.length ⟨s,(L : Int),y⟩ from ⟨p1,p2,p3,p4,p5,p6⟩)
   have HST:=Lib.hid St
   have HOK:=Lib.hid (And.intro ok okf)
   have HVL:=Lib.hid (And.intro hv hl)
   have HSM2:=Lib.hid sm
   have zgo:=blk_lt (row_blk St.out).2.choose_spec.1
   have zgl:=blk_lt (row_blk St.lines).2.choose_spec.1
   have zw:=St.B.size
   have i0' : (0 : Int) <= (k : Int):=by omega
   have i1 : (k : Int) < (m : Int):=by omega
   have i2 : (0 : Int) <= (L : Int):=by omega
   have i3 : (L : Int) < (N : Int):=by omega
   clear hxk p1 p2 p3 p4 p5 p6 St ok okf hv hl sm h3 hv0 hv1 hv2 c0 c1 c2' c3 g0 g1 g2 g3 h2 s1 s2 s3 hL
   obtain ⟨D,hD⟩ : ∃ D,D = doneF l ⟨s,(L : Int),y⟩:=⟨_,rfl⟩
   have HD:=Lib.hid hD
   clear hD
   go_upto_region 6 with fail
   go_cut [9,10] from 14 to 47 (λ s9 s10 wc => ∃ b9 v',s9 = .pointer (some ⟨b9,0,none⟩) /\ s10 = .string ⟨D.2.toArray⟩ /\ wc.heap[b9]? = some (.cells (LnV.cells v').toArray 102) /\ LnOk wc (λ b => w.heap.size <= b /\ b ≠ go /\ b ≠ gl) v' D.1 /\ Below wr.heap.size wr wc /\ wr.heap.size <= b9 /\ (v.full -> v'.full))
   case first =>
    go_region_held3 (λ W => W.cell? ⟨b,off + k * 3,none⟩ = some (.string s) /\ W.cell? ⟨b,off + k * 3 + 1,none⟩ = some (.int .i64 L) /\ W.cell? ⟨b,off + k * 3 + 2,none⟩ = some (.int .i64 y) /\ W.cell? ⟨gl,L * 4,none⟩ = some (.int .i64 v.room) /\ W.cell? ⟨gl,L * 4 + 1,none⟩ = some (.slice v.AH v.nH v.cH) /\ W.cell? ⟨gl,L * 4 + 2,none⟩ = some (.bool v.ended) /\ W.cell? ⟨gl,L * 4 + 3,none⟩ = some (.slice v.AT v.nT v.cT) /\ Below wr.heap.size wr W)
     (first | ((refine held7_below ?_ (Nat.le_refl _) ?_ <;> assumption); done) | (refine held7_of S0 ?_; (repeat' first | with_reducible assumption | with_reducible exact Below.refl _ _ | with_reducible apply below_al | with_reducible apply below_drew | with_reducible refine Below.setCell ?_ (by first | (simp; done) | (simp; omega)) _); done))
     (first
      | (go_at_call 59; refine (l1Done_any v l ⟨s,(L : Int),y⟩ _ (λ b => (w.heap.size <= b /\ b ≠ go /\ b ≠ gl) /\ b ≠ wr.heap.size) (ok_held7 (by assumption) HOK.out.1 (λ b hb h => ⟨hb,by omega⟩)) HSM2.out HP.out (by intro b hb; simp at hb; exact ⟨⟨by omega,by omega,by omega⟩,by omega⟩) (λ h => HOK.out.2 (by simp only at h; omega))).mono ?_; rintro e w2 ⟨⟨r1,A1,n1,q1,t1,A3,n3,q3⟩,rfl,ok',b2,hf'⟩; have bw : Below wr.heap.size wr w2:=bw7 b2 (by assumption); simp only [LnV.cells]; have k9 : w2.heap[wr.heap.size]? = some (.cells #[.int .i64 0,.slice none 0 0,.bool false,.slice none 0 0] 102):=(b2.block _ (by simp)).trans (by ((try with_reducible apply blk_drew); (first | with_reducible assumption | (with_reducible refine heap_new' _ _ ?_; simp) | (with_reducible refine blk_alloc ?_ _; first | with_reducible assumption | (with_reducible refine heap_new' _ _ ?_; simp)) | (with_reducible refine blk_alloc ?_ _; with_reducible refine blk_alloc ?_ _; first | with_reducible assumption | (with_reducible refine heap_new' _ _ ?_; simp)) | (with_reducible refine blk_alloc ?_ _; with_reducible refine blk_alloc ?_ _; with_reducible refine blk_alloc ?_ _; first | with_reducible assumption | (with_reducible refine heap_new' _ _ ?_; simp))))); have e9:=blk_cell k9; have f9:=blk_frozen' k9; have z9:=blk_lt k9)
      | (go_at_call 59; refine (l1Done_any v l ⟨s,(L : Int),y⟩ _ (λ b => w.heap.size <= b /\ b ≠ go /\ b ≠ gl) (ok_held7 (by assumption) HOK.out.1 (λ b hb h => hb)) HSM2.out HP.out (by intro b hb; (try simp at hb); exact ⟨by omega,by omega,by omega⟩) (λ h => HOK.out.2 (by simp only at h; omega))).mono ?_; rintro e w2 ⟨⟨r1,A1,n1,q1,t1,A3,n3,q3⟩,rfl,ok',b2,hf'⟩; have bw : Below wr.heap.size wr w2:=bw7 b2 (by assumption); simp only [LnV.cells]))
    all_goals
     go_wp2_with fail
     go_meet
     have z2:=bw.size
     refine ⟨_,⟨r1,A1,n1,q1,t1,A3,n3,q3⟩,rfl,by rw [HD.out],?_,?_,?_,?_,hf'⟩
     ·first | exact (blk_set4 (x0:=.int .i64 r1) (x1:=.slice A1 n1 q1) (x2:=.bool t1) (x3:=.slice A3 n3 q3) k9) | exact heap_alloc_new _ _
     ·rw [HD.out]
      first | with_reducible exact LnOk.alloc ok' _ | (refine LnOk.set ok' ?_; (repeat' (first | with_reducible assumption | with_reducible exact Chg.refl _ _ _ | (with_reducible refine Chg.setCell ?_ (by first | omega | (simp; done) | (simp; omega)) (by first | omega | (simp; done) | (simp; omega)) _) | with_reducible apply Chg.alloc)))
     ·first | with_reducible exact below_al bw _ | (refine Below.chg bw (lo:=wr.heap.size) (hi:=wr.heap.size + 1) ?_ (Nat.le_refl _); (repeat' (first | with_reducible assumption | with_reducible exact Chg.refl _ _ _ | (with_reducible refine Chg.setCell ?_ (by first | omega | (simp; done) | (simp; omega)) (by first | omega | (simp; done) | (simp; omega)) _) | with_reducible apply Chg.alloc)))
     ·first | exact z2 | exact Nat.le_refl _
   case rest =>
    obtain ⟨b9,⟨r1,A1,n1,q1,t1,A3,n3,q3⟩,rfl,rfl,hb9,okD,Bc,zb9,hfD⟩:=hcut
    simp only [LnV.cells] at hb9
    have S1:=held7_of S0 Bc
    obtain ⟨a0,a1,a2,a3,a4,a5,a6,_⟩:=S1
    have e9:=blk_cell hb9
    obtain ⟨gl1,csl,kgl,_⟩:=row_blk HST.out.lines
    have fgl:=blk_frozen' ((Bc.block gl zgl).trans kgl)
    have HBC:=Lib.hid Bc
    have HOKD:=Lib.hid okD
    have HFD:=Lib.hid hfD
    have zc:=Bc.size
    have hne:=HST.out.ne
    clear hb9 okD Bc hfD kgl S0
    have hb9z : b9 ≠ gl:=by omega
    go_upto_region 7 with fail
    go_region
    go_upto_region 8 with fail
    obtain ⟨Wd,hWd⟩ : ∃ Wd,Wd = (((wc.setCell ⟨gl,L * 4,none⟩ (.int .i64 r1)).setCell ⟨gl,L * 4 + 1,none⟩ (.slice A1 n1 q1)).setCell ⟨gl,L * 4 + 2,none⟩ (.bool t1)).setCell ⟨gl,L * 4 + 3,none⟩ (.slice A3 n3 q3):=⟨_,rfl⟩
    rw [<- hWd]
    have hsz : Wd.heap.size = wc.heap.size:=by rw [hWd]; simp
    have hk : Chg gl (gl + 1) wc Wd:=by rw [hWd]; (repeat' (first | with_reducible assumption | with_reducible exact Chg.refl _ _ _ | (with_reducible refine Chg.setCell ?_ (by first | omega | (simp; done) | (simp; omega)) (by first | omega | (simp; done) | (simp; omega)) _) | with_reducible apply Chg.alloc))
    have HWD:=Lib.hid hWd
    have hO : Wd.ownsRow w.heap.size 9 1 (.slice (some ⟨go,0,none⟩) k co) k (txts (runF rooms (ds.take k)).2):=row_at HST.out.out ((hk.block go (by omega) (by omega)).trans (HBC.out.block go zgo))
    have HO:=Lib.hid hO
    clear hWd hk hO e9 fgl a0 a1 a2 a3 a4 a5 a6
    obtain ⟨hi0,hz0,hz1,hz2⟩:=HI.out
    have HH:=Lib.hid hi0
    clear hi0
    go_wp2_with (at_builtin; refine wpList_append_lies _ rfl (.tmp 44) (.tmp 46) 35 rfl w.heap.size 9 i0 (.string ⟨#[]⟩) 1 16 Tryd.underlying35 HH.out hz0 hz1 hz2 rfl (by decide) (.slice (some ⟨go,0,none⟩) k co) k _ rfl (row_below' HO.out (below_drew (below_al (Below.refl _ _) _))) ⟨_,0,none⟩ 1 1 [.string ⟨D.2.toArray⟩] rfl rfl (World.news_of_block (cs:=#[.string ⟨D.2.toArray⟩]) (blk_drew (heap_new' Wd _ hsz.symm))) (by simp [Value.oneCell']) (by decide) (by unfold maxLen; omega) (by omega) (by simp; omega) _ rfl ?_; intro g2 c2n w2 hown2 hgr2 hat2 hlt2; have HO2:=Lib.hid hown2; have HG2:=Lib.hid hgr2; have HAT:=Lib.hid hat2; clear hown2 hgr2 hat2)
    go_roundw
    case rel =>
     refine ⟨k + 1,g2,c2n,vs.set L ⟨r1,A1,n1,q1,t1,A3,n3,q3⟩,by omega,by go_num,rfl,?_⟩
     rw [runF_take HX.out]
     refine HST.out.step (l:=l) rfl hLN (lns_len HST.out.lines) HVL.out.2 HBC.out (HD.out ▸ HOKD.out) (λ h => HFD.out (HOK.out.2 h)) HWD.out (below_drew (below_al (Below.refl _ _) _)) HG2.out ?_ (HD.out ▸ HO2.out)
     rcases HAT.out with h | h
     ·left; simpa [Value.ownBlock] using h
     ·right; exact h
    case measure => simp [intOf]; omega
  ·have e : k = m:=by omega
   subst e
   clear h2
   have hs:=St
   rw [List.take_of_length_le (Nat.le_of_eq HLM.out)] at hs
   go_wp2
   refine bodyPost_ret (v:=.tuple #[.slice (some ⟨gl,0,none⟩) N cl,.slice (some ⟨go,0,none⟩) k co]) ?_ rfl ⟨gl,cl,go,co,vs,by rw [HN.out,HLM.out],by rw [<- HN.out,HLM.out]; exact hs⟩
   simp [results,Tryd.results36,go_sem]
end Go.Proofs.YtkfafknliihabaaDoor
namespace Go.Proofs.YtkfafknliihabaaDoor
open Go.RowKit
theorem und_chan : Tryd.prog.underlying 113 = some (.chan .both 3):=by kernel_rfl
structure Sw where
 sp : Nat
 gl : Nat
 cl : Nat
 mc : Nat
 mt : Nat
 cs : List Nat
def Sw.lines (S : Sw) : List Value:=.chan none :: S.cs.map λ c => .chan (some c)
def TakenAt (w : World) (base : Nat) (v : Option Value) (xs : List Int) : Prop:=
 (v = none /\ xs = []) \/ ∃ g n c,v = some (.slice (some ⟨g,0,none⟩) n c) /\ w.ownsRow base 3 1 (.slice (some ⟨g,0,none⟩) n c) n (ints xs)
def takenBlk : Option Value -> Option Nat
 | some (.slice (some a) _ _) => some a.block
 | _ => none
structure SwOk (w : World) (base : Nat) (S : Sw) (ls : List Ln) : Prop where
 st : w.heap[S.sp]? = some (.cells #[.slice (some ⟨S.gl,0,none⟩) (S.cs.length + 1) S.cl,.map (some S.mc),.map (some S.mt)] 112)
 sb : base <= S.sp
 lines : w.ownsRow base 113 1 (.slice (some ⟨S.gl,0,none⟩) (S.cs.length + 1) S.cl) (S.cs.length + 1) S.lines
 len : ls.length = S.cs.length + 1
 head : ls[0]? = some ⟨0,[],false,[]⟩
 chans : ∀ (i c : Nat) (l : Ln),S.cs[i]? = some c -> ls[i + 1]? = some l -> base <= c /\ 0 <= l.room /\ ∃ s r,w.heap[c]? = some (.chan l.room.toNat (ints l.held).toArray l.ended s r false)
 nodup : S.cs.Nodup
 closed : base <= S.mc /\ ∃ ps,ChanMap w S.mc ps /\ ∀ (i c : Nat) (l : Ln),S.cs[i]? = some c -> ls[i + 1]? = some l -> (lookC c ps).isSome = l.ended
 taken : base <= S.mt /\ ∃ ps,ChanMap w S.mt ps /\ (∀ (i c : Nat) (l : Ln),S.cs[i]? = some c -> ls[i + 1]? = some l -> TakenAt w base (lookC c ps) l.taken) /\
  ∀ c c' b,c ∈ S.cs -> c' ∈ S.cs -> takenBlk (lookC c ps) = some b -> takenBlk (lookC c' ps) = some b -> c = c'
 ne : S.mc ≠ S.mt
theorem zero_int (w : World) : (zeroValue 3).run Tryd.prog w = .ok (.int .i64 0) w:=by
 obtain ⟨i0,hi,hz0,_,_⟩:=info_parts info_int
 simp [zeroValue,typeInfo,hi,hz0]
set_option maxHeartbeats 1000000 in
theorem isEnded_any {w : World} {base : Nat} {S : Sw} {ls : List Ln} (h : SwOk w base S ls) {i c : Nat} {l : Ln} (hc : S.cs[i]? = some c) (hl : ls[i + 1]? = some l) :
  Calls Tryd.prog 96 #[.pointer (some ⟨S.sp,0,none⟩),.chan (some c)] w λ e w' => e = .returned (.bool l.ended) /\ w' = w:=by
 obtain ⟨_,ps,hm,hps⟩:=h.closed
 have he:=hps i c l hc hl
 have ec:=blk_cell h.st
 have HM:=Lib.hid hm
 have HE:=Lib.hid he
 clear hps hm he h hc hl
 go_enter Tryd.func96, Tryd.ntmps96
 go_wp2_with (at_lookup; refine wpList_lookup_chan _ rfl (.tmp 11) (.tmp 12) 109 true rfl 3 Tryd.underlying109 und_chan (.int .i64 0) (zero_int _) S.mc c ps rfl rfl HM.out ?_; rw [HE.out]; simp only [if_true])
 go_ret
 exact ⟨rfl,rfl⟩
end Go.Proofs.YtkfafknliihabaaDoor
