/-
  Part 10 of what stands behind the last text.
-/
import Derived.Lib.ItoaNum
import Derived.Deep.CutRange
import Derived.Test.YtjcpjijihajopaaFWaitPq9
set_option linter.unusedSectionVars false
set_option linter.unusedSimpArgs false
set_option linter.unusedVariables false
namespace Go.Proofs.Ytjcpjijihajopaa
open Go.RowKit
set_option linter.unusedVariables false
structure CallD where
  c : Int
  p : Int
deriving DecidableEq
def CallD.cells (x : CallD) : List Value := [.int .i64 x.c, .int .i64 x.p]
def calls (xs : List CallD) : List Value := xs.flatMap CallD.cells
structure OffD where
  ln : Int
  op : Int
  pt : Int
deriving DecidableEq
structure EventD where
  k : ByteArray
  a : Int
  b : Int
deriving DecidableEq
def EventD.cells (x : EventD) : List Value := [.string x.k, .int .i64 x.a, .int .i64 x.b]
def events (xs : List EventD) : List Value := xs.flatMap EventD.cells
def isOpen (d : RecD) : Bool := d.e.toList == [111, 112, 101, 110]
def openP (c : Int) (d : RecD) : Bool := d.c == c && isOpen d
def openAt (rs : List RecD) (c : Int) : Option Nat := rs.findIdx? (openP c)
def posI : Option Nat → Int
  | some i => (i : Int)
  | none => -1
def talkP (op : Int) (d : RecD) : Bool := d.o == op && isOpen d
def talksF (rs : List RecD) (op : Int) : Int := match rs.find? (talkP op) with | some d => d.c | none => 0
def usedB (rs : List RecD) (l : Int) : Bool := rs.any fun d => d.l == l && isOpen d
def freeTo (rs : List RecD) (n : Nat) : List Int := ((List.range n).map fun i : Nat => (i : Int) + 1).filter fun l => !usedB rs l
def freeF (o : OffD) (rs : List RecD) : List Int := freeTo rs o.ln.toNat
def findC6 (xs : List CallD) (c : Int) : Option Nat := xs.findIdx? fun x => x.c == c
def withoutF (xs : List CallD) (c : Int) : List CallD := xs.filter fun x => x.c != c
def queuedF (xs : List CallD) (c : CallD) : List CallD := xs.takeWhile (fun x => decide (c.p ≤ x.p)) ++ c :: xs.dropWhile (fun x => decide (c.p ≤ x.p))
structure RoomD where
  o : OffD
  clk : Int
  recs : List RecD
  wait : List CallD
  back : List CallD
  log : List (List UInt8)
def doneE : ByteArray := ⟨#[100, 111, 110, 101]⟩
def leftE : ByteArray := ⟨#[108, 101, 102, 116]⟩
def tiredE : ByteArray := ⟨#[116, 105, 114, 101, 100]⟩
def openB : ByteArray := ⟨#[111, 112, 101, 110]⟩
def endRec (b : RoomD) (i : Nat) (e : ByteArray) : List RecD := b.recs.modify i fun d => { d with t := b.clk, e := e }
def callAt (rs : List RecD) (i : Nat) : Int := match rs[i]? with | some d => d.c | none => 0
def endsF (b : RoomD) (i : Nat) (e : ByteArray) : RoomD := { b with recs := endRec b i e, wait := withoutF b.wait (callAt b.recs i) }
def numT (n : Int) : List UInt8 := Lib.itoa n
def ringsF (b : RoomD) (c : CallD) : RoomD × List UInt8 :=
  if (openAt b.recs c.c).isSome || (findC6 b.back c.c).isSome then (b, [107, 110, 111, 119, 110])
  else match freeF b.o b.recs with
    | [] => ({ b with back := b.back ++ [c] }, [98, 117, 115, 121])
    | l :: _ => ({ b with recs := b.recs ++ [⟨c.c, l, 0, b.clk, -1, -1, openB⟩], wait := queuedF b.wait c }, [108, 105, 110, 101, 32] ++ numT l)
def answersF (b : RoomD) (op : Int) : RoomD × List UInt8 :=
  if 0 < talksF b.recs op then (b, [116, 97, 108, 107, 115])
  else match b.wait with
    | [] => (b, [110, 111, 110, 101])
    | c :: _ => match openAt b.recs c.c with
      | none => (b, [])
      | some i => ({ b with recs := b.recs.modify i fun d => { d with o := op, h := b.clk }, wait := withoutF b.wait c.c }, [99, 97, 108, 108, 32] ++ numT c.c)
def returnsF (b : RoomD) (op : Int) : RoomD × List UInt8 :=
  if 0 < talksF b.recs op then (b, [116, 97, 108, 107, 115])
  else match b.back with
    | [] => (b, [110, 111, 110, 101])
    | c :: _ => match freeF b.o b.recs with
      | [] => (b, [98, 117, 115, 121])
      | l :: _ => ({ b with back := withoutF b.back c.c, recs := b.recs ++ [⟨c.c, l, op, b.clk, b.clk, -1, openB⟩] }, [99, 97, 108, 108, 32] ++ numT c.c)
def opAt (rs : List RecD) (i : Nat) : Int := match rs[i]? with | some d => d.o | none => 0
def hangsF (b : RoomD) (c : Int) : RoomD × List UInt8 :=
  match openAt b.recs c with
  | some i => if 0 < opAt b.recs i then (endsF b i doneE, [100, 111, 110, 101]) else (endsF b i leftE, [108, 101, 102, 116])
  | none => if (findC6 b.back c).isSome then ({ b with back := withoutF b.back c }, [111, 102, 102]) else (b, [103, 111, 110, 101])
def fromAt (rs : List RecD) (i : Nat) : Int := match rs[i]? with | some d => d.f | none => 0
def tireF (bt : RoomD × List UInt8) (x : CallD) : RoomD × List UInt8 :=
  match openAt bt.1.recs x.c with
  | none => bt
  | some i => if bt.1.o.pt ≤ bt.1.clk - fromAt bt.1.recs i then
      ({ endsF bt.1 i tiredE with back := bt.1.back ++ [x] }, bt.2 ++ [32] ++ numT x.c) else bt
def waitsF (b : RoomD) (m : Int) : RoomD × List UInt8 := b.wait.foldl tireF ({ b with clk := b.clk + m }, [97, 116, 32] ++ numT (b.clk + m))
def ringW : List UInt8 := [114, 105, 110, 103]
def hangW : List UInt8 := [104, 97, 110, 103]
def answerW : List UInt8 := [97, 110, 115, 119, 101, 114]
def returnW : List UInt8 := [114, 101, 116, 117, 114, 110]
def waitW : List UInt8 := [119, 97, 105, 116]
def offStep (b : RoomD) (e : EventD) : RoomD × List UInt8 :=
  if e.k.toList = ringW then ringsF b ⟨e.a, e.b⟩ else if e.k.toList = answerW then answersF b e.a else if e.k.toList = returnW then returnsF b e.a else if e.k.toList = hangW then hangsF b e.a else waitsF b e.a
def eventP (ops : Int) (e : EventD) : Prop :=
  (e.k.toList = ringW ∧ 1 ≤ e.a ∧ e.a ≤ 99 ∧ 0 ≤ e.b ∧ e.b ≤ 9) ∨ (e.k.toList = hangW ∧ 1 ≤ e.a ∧ e.a ≤ 99 ∧ e.b = 0) ∨ ((e.k.toList = answerW ∨ e.k.toList = returnW) ∧ 1 ≤ e.a ∧ e.a ≤ ops ∧ e.b = 0) ∨ (e.k.toList = waitW ∧ 1 ≤ e.a ∧ e.a ≤ 60 ∧ e.b = 0)
instance (ops : Int) (e : EventD) : Decidable (eventP ops e) := by unfold eventP; infer_instance
def eventB (ops : Int) (e : EventD) : Bool := decide (eventP ops e)
def offB (o : OffD) : Bool := decide (1 ≤ o.ln ∧ o.ln ≤ 6 ∧ 1 ≤ o.op ∧ o.op ≤ 4 ∧ 1 ≤ o.pt ∧ o.pt ≤ 60)
def officeOk (o : OffD) (es : List EventD) : Bool := offB o && decide (es.length ≤ 60) && es.all (eventB o.op)
def room0 (o : OffD) : RoomD := ⟨o, 0, [], [], [], []⟩
def logF (bt : RoomD × List UInt8) : RoomD := { bt.1 with log := bt.1.log ++ [bt.2] }
def offRun (o : OffD) (es : List EventD) : RoomD := es.foldl (fun b e => logF (offStep b e)) (room0 o)
def roomF (o : OffD) (es : List EventD) : RoomD := if officeOk o es then offRun o es else room0 o
end Go.Proofs.Ytjcpjijihajopaa
namespace Go.Proofs.Ytjcpjijihajopaa
open Go.RowKit
set_option linter.unusedVariables false
theorem Slc.callsLen {w : World} {lo hi n c : Nat} {A : Option Addr} {ds : List CallD} (h : Slc w lo hi 2 A n c (calls ds)) : ds.length = n := by
  have h1 := h.len; have h2 := flat_len CallD.cells (s := 2) (fun _ => rfl) ds
  unfold calls at h1; omega
theorem Slc.callsAt {w : World} {lo hi n c : Nat} {A : Option Addr} {ds : List CallD} (h : Slc w lo hi 2 A n c (calls ds)) {k : Nat} (hk : k < n) :
    ∃ b off d, A = some ⟨b, off, none⟩ ∧ lo ≤ b ∧ b < hi ∧ b < w.heap.size ∧ ds[k]? = some d ∧ w.cell? ⟨b, off + k * 2, none⟩ = some (.int .i64 d.c) ∧ w.cell? ⟨b, off + k * 2 + 1, none⟩ = some (.int .i64 d.p) := by
  have hl := h.callsLen
  have hx : ds[k]? = some ds[k] := List.getElem?_eq_getElem (by omega)
  have g : ∀ i, i < 2 → (calls ds)[k * 2 + i]? = (ds[k].cells)[i]? := fun i hi => by
    have := flat_get CallD.cells (s := 2) (fun _ => rfl) ds k i hi
    rw [hx] at this; exact this
  obtain ⟨b, off, rfl, h1, h2, h3, h4⟩ := h.cells hk
  exact ⟨b, off, ds[k], rfl, h1, h2, h3, hx, h4 0 _ (g 0 (by decide)), by rw [Nat.add_assoc]; exact h4 1 _ (g 1 (by decide))⟩
end Go.Proofs.Ytjcpjijihajopaa
namespace Go.Proofs.Ytjcpjijihajopaa
open Go.RowKit
set_option linter.unusedVariables false
theorem Slc.eventsLen {w : World} {lo hi n c : Nat} {A : Option Addr} {ds : List EventD} (h : Slc w lo hi 3 A n c (events ds)) : ds.length = n := by
  have h1 := h.len; have h2 := flat_len EventD.cells (s := 3) (fun _ => rfl) ds
  unfold events at h1; omega
theorem Slc.eventsAt {w : World} {lo hi n c : Nat} {A : Option Addr} {ds : List EventD} (h : Slc w lo hi 3 A n c (events ds)) {k : Nat} (hk : k < n) :
    ∃ b off d, A = some ⟨b, off, none⟩ ∧ lo ≤ b ∧ b < hi ∧ b < w.heap.size ∧ ds[k]? = some d ∧ w.cell? ⟨b, off + k * 3, none⟩ = some (.string d.k) ∧ w.cell? ⟨b, off + k * 3 + 1, none⟩ = some (.int .i64 d.a) ∧ w.cell? ⟨b, off + k * 3 + 2, none⟩ = some (.int .i64 d.b) := by
  have hl := h.eventsLen
  have hx : ds[k]? = some ds[k] := List.getElem?_eq_getElem (by omega)
  have g : ∀ i, i < 3 → (events ds)[k * 3 + i]? = (ds[k].cells)[i]? := fun i hi => by
    have := flat_get EventD.cells (s := 3) (fun _ => rfl) ds k i hi
    rw [hx] at this; exact this
  obtain ⟨b, off, rfl, h1, h2, h3, h4⟩ := h.cells hk
  exact ⟨b, off, ds[k], rfl, h1, h2, h3, hx, h4 0 _ (g 0 (by decide)), by rw [Nat.add_assoc]; exact h4 1 _ (g 1 (by decide)), by rw [Nat.add_assoc]; exact h4 2 _ (g 2 (by decide))⟩
end Go.Proofs.Ytjcpjijihajopaa
namespace Go.Proofs.Ytjcpjijihajopaa
open Go.RowKit
set_option linter.unusedVariables false
theorem hb2 {W0 W : World} {a1 a2 : Addr} {v1 v2 : Value} (h : W.cell? a1 = some v1 ∧ W.cell? a2 = some v2 ∧ Below W0.heap.size W0 W) : Below W0.heap.size W0 W := h.2.2
theorem hb2_to {W0 W' : World} {a1 a2 : Addr} {v1 v2 : Value} (z1 : a1.block < W0.heap.size) (z2 : a2.block < W0.heap.size) (h1 : W0.cell? a1 = some v1) (h2 : W0.cell? a2 = some v2) (hb : Below W0.heap.size W0 W') : W'.cell? a1 = some v1 ∧ W'.cell? a2 = some v2 ∧ Below W0.heap.size W0 W' :=
  ⟨(World.cell?_of_block (hb.block _ z1)).trans h1, (World.cell?_of_block (hb.block _ z2)).trans h2, hb⟩
section
variable {P : Program} (w : World)
theorem run_apps (t ty : TypeId) (base : Nat) (e : TypeId) (i : TypeInfo) (z : Value) (size bytes : Nat) (ht : P.underlying t = some (.slice e)) (hi : P.info? e = some i) (hz : i.zero = some z)
    (hsize : i.size = size) (hby : i.bytes = bytes) (hzs : z.cells.size = size) (hsz : 0 < size)
    (g0 n c0 : Nat) (xs : List Value) (hown : w.ownsRow base e size (.slice (some ⟨g0, 0, none⟩) n c0) n xs)
    (A : Option Addr) (m c lo hi' : Nat) (news : List Value) (hs : Slc w lo hi' size A m c news) (h1 : ∀ u ∈ news, u.oneCell' = true)
    (h63 : n + m ≤ maxLen) (hbytes : (n + m) * bytes ≤ 140737488355328) (hbase : base ≤ w.heap.size) :
    ∃ g cap w', (Builtin.append_ #[t, t] ty #[.slice (some ⟨g0, 0, none⟩) n c0, .slice A m c]).run P w = .ok (.slice (some ⟨g, 0, none⟩) (n + m) cap) w' ∧
      w'.ownsRow base e size (.slice (some ⟨g, 0, none⟩) (n + m) cap) (n + m) (xs ++ news) ∧ w.grownBy w' (Value.ownBlock (.slice (some ⟨g0, 0, none⟩) n c0)) ∧ Below base w w' := by
  cases A with
  | none =>
    have hm : m = 0 := by
      rcases Nat.eq_zero_or_pos m with h | h
      · exact h
      · obtain ⟨b, off, e, _⟩ := hs.at_ h; cases e
    subst hm
    have hnl : news = [] := by have := hs.len; simp at this; exact this
    subst hnl
    have hle : n ≤ c0 := by
      obtain ⟨_, h | ⟨b, cap, cur, e, h1, h2, h3, _⟩⟩ := hown
      · cases h.1
      · injection e with _ _ e; omega
    have hr := run_append_room_src (P := P) w t t ty e i ht hi g0 0 n c0 (.slice none 0 c) 0 [] (Src.ofNil (P := P) (e' := e) w ht c) (by omega) (by intro j hj; simp at hj) (by intro j hj; simp at hj)
    refine ⟨g0, c0, w, by simpa [World.setCells] using hr, by simpa using hown, ⟨rfl, rfl, rfl, Nat.le_refl _, fun _ _ _ => rfl⟩, Below.refl _ _⟩
  | some ad =>
    by_cases hm : 0 < m
    · obtain ⟨b, off, e', _, _, _, h4⟩ := hs.at_ hm
      injection e' with e'
      subst e'
      exact run_app w t ty base e i z size bytes ht hi hz hsize hby hzs hsz _ n xs hown (by simp) _ m c news hs.len (fun j u hu => by rw [Addr.add_lit]; exact h4 j u hu) h1 h63 hbytes hbase
    · obtain rfl : m = 0 := by omega
      have hnl : news = [] := by have := hs.len; simp at this; exact this
      subst hnl
      exact run_app w t ty base e i z size bytes ht hi hz hsize hby hzs hsz _ n xs hown (by simp) _ 0 c [] (by simp) (fun j u hu => by simp at hu) (fun u hu => by cases hu) h63 hbytes hbase
theorem wp_apps {o : Oper} {a : Act} {K : Act → World → Prop} {Q : Exit → Act → World → Prop} (s x : Operand) (t : TypeId)
    (ho : o.op = .call { callee := .builtin .append, args := #[s, x], argTypes := #[t, t] })
    (base : Nat) (e : TypeId) (i : TypeInfo) (z : Value) (size bytes : Nat) (ht : P.underlying t = some (.slice e)) (hi : P.info? e = some i) (hz : i.zero = some z)
    (hsize : i.size = size) (hby : i.bytes = bytes) (hzs : z.cells.size = size) (hsz : 0 < size)
    (g0 n c0 : Nat) (xs : List Value) (hsv : a.eval s = .slice (some ⟨g0, 0, none⟩) n c0) (hown : w.ownsRow base e size (.slice (some ⟨g0, 0, none⟩) n c0) n xs)
    (A : Option Addr) (m c lo hi' : Nat) (news : List Value) (hx : a.eval x = .slice A m c) (hs : Slc w lo hi' size A m c news) (h1 : ∀ u ∈ news, u.oneCell' = true)
    (h63 : n + m ≤ maxLen) (hbytes : (n + m) * bytes ≤ 140737488355328) (hbase : base ≤ w.heap.size)
    (h : ∀ g cap w', w'.ownsRow base e size (.slice (some ⟨g, 0, none⟩) (n + m) cap) (n + m) (xs ++ news) → w.grownBy w' (Value.ownBlock (.slice (some ⟨g0, 0, none⟩) n c0)) → Below base w w' → K (a.put o.dst (.slice (some ⟨g, 0, none⟩) (n + m) cap)) w') : o.wp P a w K Q := by
  obtain ⟨g, cap, w', hr, h2, h3, h4⟩ := run_apps (P := P) w t o.type base e i z size bytes ht hi hz hsize hby hzs hsz g0 n c0 xs hown A m c lo hi' news hs h1 h63 hbytes hbase
  unfold Oper.wp execOp
  simp only [ho, resolve, invoke, builtin, Sem.run_bind, Sem.run_pure, Result.andThen_ok, List.map_toArray, List.map_cons, List.map_nil, hsv, hx, hr]
  exact h g cap w' h2 h3 h4
theorem step_apps {ops : Array Oper} {o : Oper} {a : Act} {K : Act → World → Prop} {Q : Exit → Act → World → Prop} {EE : Prop} (hw : Region.wanted o (yielded ops a.tmps) = true) (s x : Operand) (t : TypeId)
    (ho : o.op = .call { callee := .builtin .append, args := #[s, x], argTypes := #[t, t] })
    (base : Nat) (e : TypeId) (i : TypeInfo) (z : Value) (size bytes : Nat) (ht : P.underlying t = some (.slice e)) (hi : P.info? e = some i) (hz : i.zero = some z)
    (hsize : i.size = size) (hby : i.bytes = bytes) (hzs : z.cells.size = size) (hsz : 0 < size)
    (g0 n c0 : Nat) (xs : List Value) (hsv : a.eval s = .slice (some ⟨g0, 0, none⟩) n c0) (hown : w.ownsRow base e size (.slice (some ⟨g0, 0, none⟩) n c0) n xs)
    (A : Option Addr) (m c lo hi' : Nat) (news : List Value) (hx : a.eval x = .slice A m c) (hs : Slc w lo hi' size A m c news) (h1 : ∀ u ∈ news, u.oneCell' = true)
    (h63 : n + m ≤ maxLen) (hbytes : (n + m) * bytes ≤ 140737488355328) (hbase : base ≤ w.heap.size)
    (h : ∀ g cap w', w'.ownsRow base e size (.slice (some ⟨g, 0, none⟩) (n + m) cap) (n + m) (xs ++ news) → w.grownBy w' (Value.ownBlock (.slice (some ⟨g0, 0, none⟩) n c0)) → Below base w w' → K (a.put o.dst (.slice (some ⟨g, 0, none⟩) (n + m) cap)) w') :
    if Region.wanted o (yielded ops a.tmps) = true then Oper.wp P o a w K Q else EE := by
  rw [if_pos hw]
  exact wp_apps w s x t ho base e i z size bytes ht hi hz hsize hby hzs hsz g0 n c0 xs hsv hown A m c lo hi' news hx hs h1 h63 hbytes hbase h
end
end Go.Proofs.Ytjcpjijihajopaa
namespace Go.Proofs.Ytjcpjijihajopaa
open Go.RowKit
set_option linter.unusedVariables false
theorem findIdx_at {α : Type} {p : α → Bool} : ∀ {l : List α} {k : Nat} {a : α}, l[k]? = some a → p a = true → (∀ j, j < k → ∀ b, l[j]? = some b → p b = false) → l.findIdx? p = some k
  | [], k, a, h, _, _ => by simp at h
  | x :: xs, 0, a, h, ha, _ => by
    simp at h; subst h
    rw [List.findIdx?_cons, if_pos ha]
  | x :: xs, k + 1, a, h, ha, hn => by
    have hx := hn 0 (by omega) x rfl
    rw [List.findIdx?_cons, hx, findIdx_at (l := xs) (k := k) (by simpa using h) ha (fun j hj b hb => hn (j + 1) (by omega) b (by simpa using hb))]
    simp
theorem findIdx_no {α : Type} {p : α → Bool} {l : List α} {k : Nat} (hn : ∀ j, j < k → ∀ b, l[j]? = some b → p b = false) (hk : l.length ≤ k) : l.findIdx? p = none := by
  rw [List.findIdx?_eq_none_iff]
  intro x hx
  obtain ⟨j, hj, e⟩ := List.mem_iff_getElem.1 hx
  exact hn j (by omega) x (by rw [List.getElem?_eq_getElem hj, e])
theorem find_at {α : Type} {p : α → Bool} : ∀ {l : List α} {k : Nat} {a : α}, l[k]? = some a → p a = true → (∀ j, j < k → ∀ b, l[j]? = some b → p b = false) → l.find? p = some a
  | [], k, a, h, _, _ => by simp at h
  | x :: xs, 0, a, h, ha, _ => by
    simp at h; subst h
    rw [List.find?_cons, ha]
  | x :: xs, k + 1, a, h, ha, hn => by
    have hx := hn 0 (by omega) x rfl
    rw [List.find?_cons, hx]
    exact find_at (l := xs) (k := k) (by simpa using h) ha (fun j hj b hb => hn (j + 1) (by omega) b (by simpa using hb))
theorem find_no {α : Type} {p : α → Bool} {l : List α} {k : Nat} (hn : ∀ j, j < k → ∀ b, l[j]? = some b → p b = false) (hk : l.length ≤ k) : l.find? p = none := by
  rw [List.find?_eq_none]
  intro x hx
  obtain ⟨j, hj, e⟩ := List.mem_iff_getElem.1 hx
  rw [hn j (by omega) x (by rw [List.getElem?_eq_getElem hj, e])]
  simp
theorem none_snoc {α : Type} {p : α → Bool} {l : List α} {k : Nat} {a : α} (h : ∀ j, j < k → ∀ b, l[j]? = some b → p b = false) (hk : l[k]? = some a) (ha : p a = false) : ∀ j, j < k + 1 → ∀ b, l[j]? = some b → p b = false := by
  intro j hj b hb
  by_cases e : j = k
  · subst e; rw [hk] at hb; injection hb with hb; exact hb ▸ ha
  · exact h j (by omega) b hb
set_option maxHeartbeats 2000000 in
theorem l6Open_any (lo hi n c : Nat) (A : Option Addr) (rs : List RecD) (q : Int) (w : World) (h : Slc w lo hi 7 A n c (recs rs)) (hn : n ≤ 1048576) :
    Calls Try.prog 101 #[.slice A n c, .int .i64 q] w fun e w' => e = .returned (.int .i64 (posI (openAt rs q))) ∧ w' = w := by
  have hl := Lib.hid h.recLen
  go_enter Try.func101, Try.ntmps101
  go_wp2
  go_loop [5] (fun i => ∃ k : Nat, k ≤ n ∧ i = .int .i64 k ∧ ∀ j, j < k → ∀ b, rs[j]? = some b → openP q b = false) (fun i => n - (intOf i).toNat)
  case atStart => exact ⟨0, Nat.zero_le _, rfl, fun j hj => absurd hj (by omega)⟩
  case round =>
    obtain ⟨k, hk, rfl, hcs⟩ := hrel
    have HC := Lib.hid hcs
    clear hcs
    by_cases hlt : k < n
    · obtain ⟨b, off, d, hA, _, _, h3, hxk, hv0, hv1, hv2, hv3, hv4, hv5, hv6⟩ := h.rec7 hlt
      subst hA
      have HX := Lib.hid hxk
      clear hxk h hv1 hv2 hv3 hv4 hv5 h3
      have i0 : (0 : Int) ≤ (k : Int) := by omega
      have i1 : (k : Int) < (n : Int) := by omega
      cases hq : (d.c == q)
      · have HP := Lib.hid (show openP q d = false by unfold openP; rw [hq]; rfl)
        go_wp2
        go_round
        case rel => exact ⟨k + 1, by omega, by go_num, none_snoc HC.out HX.out HP.out⟩
        case measure => simp [intOf]; omega
      · cases hd : (d.e.toList == [111, 112, 101, 110])
        · have HP := Lib.hid (show openP q d = false by unfold openP isOpen; rw [hq, hd]; rfl)
          go_wp2
          go_round
          case rel => exact ⟨k + 1, by omega, by go_num, none_snoc HC.out HX.out HP.out⟩
          case measure => simp [intOf]; omega
        · have HP := Lib.hid (show openP q d = true by unfold openP isOpen; rw [hq, hd]; rfl)
          go_wp2
          go_ret
          exact ⟨ret_int (by unfold openAt; rw [findIdx_at HX.out HP.out HC.out]; rfl), rfl⟩
    · have e : k = n := by omega
      subst e
      clear h
      go_wp2
      go_ret
      exact ⟨ret_int (by unfold openAt; rw [findIdx_no HC.out (by rw [hl.out]; exact Nat.le_refl _)]; rfl), rfl⟩
set_option maxHeartbeats 2000000 in
theorem l6Talks_any (lo hi n c : Nat) (A : Option Addr) (rs : List RecD) (q : Int) (w : World) (h : Slc w lo hi 7 A n c (recs rs)) (hn : n ≤ 1048576) :
    Calls Try.prog 105 #[.slice A n c, .int .i64 q] w fun e w' => e = .returned (.int .i64 (talksF rs q)) ∧ w' = w := by
  have hl := Lib.hid h.recLen
  go_enter Try.func105, Try.ntmps105
  go_wp2
  go_loop [5] (fun i => ∃ k : Nat, k ≤ n ∧ i = .int .i64 k ∧ ∀ j, j < k → ∀ b, rs[j]? = some b → talkP q b = false) (fun i => n - (intOf i).toNat)
  case atStart => exact ⟨0, Nat.zero_le _, rfl, fun j hj => absurd hj (by omega)⟩
  case round =>
    obtain ⟨k, hk, rfl, hcs⟩ := hrel
    have HC := Lib.hid hcs
    clear hcs
    by_cases hlt : k < n
    · obtain ⟨b, off, d, hA, _, _, h3, hxk, hv0, hv1, hv2, hv3, hv4, hv5, hv6⟩ := h.rec7 hlt
      subst hA
      have HX := Lib.hid hxk
      clear hxk h hv1 hv3 hv4 hv5 h3
      have i0 : (0 : Int) ≤ (k : Int) := by omega
      have i1 : (k : Int) < (n : Int) := by omega
      cases hq : (d.o == q)
      · have HP := Lib.hid (show talkP q d = false by unfold talkP; rw [hq]; rfl)
        go_wp2
        go_round
        case rel => exact ⟨k + 1, by omega, by go_num, none_snoc HC.out HX.out HP.out⟩
        case measure => simp [intOf]; omega
      · cases hd : (d.e.toList == [111, 112, 101, 110])
        · have HP := Lib.hid (show talkP q d = false by unfold talkP isOpen; rw [hq, hd]; rfl)
          go_wp2
          go_round
          case rel => exact ⟨k + 1, by omega, by go_num, none_snoc HC.out HX.out HP.out⟩
          case measure => simp [intOf]; omega
        · have HP := Lib.hid (show talkP q d = true by unfold talkP isOpen; rw [hq, hd]; rfl)
          go_wp2
          go_ret
          exact ⟨ret_int (by unfold talksF; rw [find_at HX.out HP.out HC.out]), rfl⟩
    · have e : k = n := by omega
      subst e
      clear h
      go_wp2
      go_ret
      exact ⟨ret_int (by unfold talksF; rw [find_no HC.out (by rw [hl.out]; exact Nat.le_refl _)]), rfl⟩
set_option maxHeartbeats 2000000 in
theorem l6Find_any (lo hi n c : Nat) (A : Option Addr) (xs : List CallD) (q : Int) (w : World) (h : Slc w lo hi 2 A n c (calls xs)) (hn : n ≤ 1048576) :
    Calls Try.prog 102 #[.slice A n c, .int .i64 q] w fun e w' => e = .returned (.int .i64 (posI (findC6 xs q))) ∧ w' = w := by
  have hl := Lib.hid h.callsLen
  go_enter Try.func102, Try.ntmps102
  go_wp2
  go_loop [5] (fun i => ∃ k : Nat, k ≤ n ∧ i = .int .i64 k ∧ ∀ j, j < k → ∀ b, xs[j]? = some b → (b.c == q) = false) (fun i => n - (intOf i).toNat)
  case atStart => exact ⟨0, Nat.zero_le _, rfl, fun j hj => absurd hj (by omega)⟩
  case round =>
    obtain ⟨k, hk, rfl, hcs⟩ := hrel
    have HC := Lib.hid hcs
    clear hcs
    by_cases hlt : k < n
    · obtain ⟨b, off, d, hA, _, _, h3, hxk, hv0, hv1⟩ := h.callsAt hlt
      subst hA
      have HX := Lib.hid hxk
      clear hxk h hv1 h3
      have i0 : (0 : Int) ≤ (k : Int) := by omega
      have i1 : (k : Int) < (n : Int) := by omega
      cases hq : (d.c == q)
      · have HP := Lib.hid hq
        go_wp2
        go_round
        case rel => exact ⟨k + 1, by omega, by go_num, none_snoc HC.out HX.out HP.out⟩
        case measure => simp [intOf]; omega
      · have HP := Lib.hid hq
        go_wp2
        go_ret
        exact ⟨ret_int (by unfold findC6; rw [findIdx_at HX.out HP.out HC.out]; rfl), rfl⟩
    · have e : k = n := by omega
      subst e
      clear h
      go_wp2
      go_ret
      exact ⟨ret_int (by unfold findC6; rw [findIdx_no HC.out (by rw [hl.out]; exact Nat.le_refl _)]; rfl), rfl⟩
def NewRow (E s : Nat) (w : World) (m : Nat) (xs : List Value) (v : Value) (w' : World) : Prop := ∃ g cp, v = .slice (some ⟨g, 0, none⟩) m cp ∧ w'.ownsRow w.heap.size E s (.slice (some ⟨g, 0, none⟩) m cp) m xs ∧ Below w.heap.size w w'
theorem calls_snoc (bs : List CallD) (b : CallD) : calls (bs ++ [b]) = calls bs ++ b.cells := by simp [calls]
theorem info_call6 : (Try.prog.info? 140).map (fun i => (i.zero, i.size, i.bytes)) = some (some (.agg #[.int .i64 0, .int .i64 0]), 2, 16) := by kernel_rfl
theorem filter_succ {xs : List CallD} {k : Nat} {d : CallD} (q : Int) (h : xs[k]? = some d) : withoutF (xs.take (k + 1)) q = withoutF (xs.take k) q ++ (if d.c != q then [d] else []) := by
  unfold withoutF
  rw [List.take_add_one, h, List.filter_append]
  congr 1
  simp [List.filter_cons]
set_option maxHeartbeats 4000000 in
set_option maxRecDepth 20000 in
theorem l6Without_any (lo hi n c : Nat) (A : Option Addr) (xs : List CallD) (q : Int) (w : World) (h : Slc w lo hi 2 A n c (calls xs)) (hn : n ≤ 100000) :
    Calls Try.prog 106 #[.slice A n c, .int .i64 q] w fun e w' => ∃ v, e = .returned v ∧ NewRow 140 2 w (withoutF xs q).length (calls (withoutF xs q)) v w' := by
  have hl := Lib.hid h.callsLen
  obtain ⟨i0, hi0, hz0, hz1, hz2⟩ := info_parts info_call6
  have HI := Lib.hid (And.intro hi0 (And.intro hz0 (And.intro hz1 hz2)))
  clear hi0 hz0 hz1 hz2
  go_enter Try.func106, Try.ntmps106
  go_wp2
  go_loopw [5, 6] (fun v i wr => ∃ (k g L cl : Nat), k ≤ n ∧ i = .int .i64 k ∧ L = (withoutF (xs.take k) q).length ∧ v = .slice (some ⟨g, 0, none⟩) L cl ∧ Below w.heap.size w wr ∧ wr.ownsRow w.heap.size 140 2 (.slice (some ⟨g, 0, none⟩) L cl) L (calls (withoutF (xs.take k) q))) (fun _ i _ => n - (intOf i).toNat)
  case atStart => exact ⟨0, w.heap.size, 0, 0, Nat.zero_le _, rfl, rfl, rfl, below_al (Below.refl _ _) _, row_empty (Nat.le_refl _) (heap_alloc_new _ _)⟩
  case round =>
    obtain ⟨k, g, L, cl, hk, rfl, hL, rfl, B, hown⟩ := hrel
    have HL := Lib.hid hL
    have HOW := Lib.hid hown
    have HB := Lib.hid B
    have hzb := B.size
    have hlen : L ≤ k := by rw [hL]; unfold withoutF; exact Nat.le_trans (List.length_filter_le _ _) (by simp; omega)
    clear hL hown
    by_cases hlt : k < n
    · obtain ⟨b, off, d, hA, _, _, h3, hxk, hv0, hv1⟩ := (h.below B).callsAt hlt
      subst hA
      have HF := Lib.hid (filter_succ q hxk)
      clear hxk h h3 B
      have i0' : (0 : Int) ≤ (k : Int) := by omega
      have i1 : (k : Int) < (n : Int) := by omega
      cases hq : (d.c != q)
      · rw [hq] at HF
        have HN := Lib.hid (show withoutF (xs.take (k + 1)) q = withoutF (xs.take k) q by rw [HF.out]; simp)
        go_wp2
        go_roundw
        case rel => exact ⟨k + 1, g, L, cl, by omega, by go_num, by rw [HN.out]; exact HL.out, rfl, HB.out, by rw [HN.out]; exact HOW.out⟩
        case measure => simp [intOf]; omega
      · rw [hq] at HF
        have HN := Lib.hid (show withoutF (xs.take (k + 1)) q = withoutF (xs.take k) q ++ [d] by rw [HF.out]; simp)
        obtain ⟨hi0, hz0, hz1, hz2⟩ := HI.out
        have HH := Lib.hid hi0
        clear hi0
        go_wp2_with (at_builtin; refine wpList_app _ rfl (.tmp 21) (.tmp 26) 118 rfl w.heap.size 140 i0 (.agg #[.int .i64 0, .int .i64 0]) 2 16 Try.underlying118 HH.out hz0 hz1 hz2 rfl (by decide) (.slice (some ⟨g, 0, none⟩) L cl) L (calls (withoutF (xs.take k) q)) rfl (row_keep HOW.out ?c1) (by simp) ⟨_, 0, none⟩ 1 1 (CallD.cells d) rfl rfl ?c2 (by intro u hu; simp [CallD.cells] at hu; rcases hu with rfl | rfl <;> rfl) ?c5 ?c6 ?c7 ?_; (case c1 => exact fun b hb => Below.heap_alloc _ _ b hb); (case c2 => exact World.news_of_block (cs := (CallD.cells d).toArray) (heap_new' _ _ (by simp))); (case c5 => unfold maxLen; omega); (case c6 => omega); (case c7 => (simp; omega)); intro g1 c1 w1 hown1 hgr1 B1; have HO1 := Lib.hid hown1; have HB1 := Lib.hid B1; clear hown1 hgr1 B1)
        go_roundw
        case rel =>
          refine ⟨k + 1, g1, L + 1, c1, by omega, by go_num, by rw [HN.out, HL.out]; simp, rfl, (below_al HB.out _).trans HB1.out, ?_⟩
          rw [HN.out, calls_snoc]; exact HO1.out
        case measure => simp [intOf]; omega
    · have e : k = n := by omega
      subst e
      have HT := Lib.hid (show xs.take k = xs by rw [List.take_of_length_le (by rw [hl.out]; exact Nat.le_refl _)])
      clear h B
      go_wp2
      go_ret
      refine ⟨_, rfl, g, cl, by rw [HL.out, HT.out]; rfl, ?_, HB.out⟩
      have := HOW.out
      rw [HL.out, HT.out] at this
      exact this
end Go.Proofs.Ytjcpjijihajopaa
namespace Go.Proofs.Ytjcpjijihajopaa
open Go.RowKit
set_option linter.unusedVariables false
section
variable {P : Program} (w : World)
theorem run_app2 (t ty : TypeId) (base : Nat) (e : TypeId) (i : TypeInfo) (z : Value) (size bytes : Nat) (ht : P.underlying t = some (.slice e)) (hi : P.info? e = some i) (hz : i.zero = some z)
    (hsize : i.size = size) (hby : i.bytes = bytes) (hzs : z.cells.size = size) (hsz : 0 < size)
    (gv cv n : Nat) (xs : List Value) (hown : w.ownsRow base e size (.slice (some ⟨gv, 0, none⟩) n cv) n xs)
    (ad : Addr) (m c : Nat) (news : List Value) (hl : news.length = m * size) (hnews : ∀ j u, news[j]? = some u → w.cell? (ad.add j) = some u) (h1 : ∀ u ∈ news, u.oneCell' = true)
    (h63 : n + m ≤ maxLen) (hbytes : (n + m) * bytes ≤ 140737488355328) (hbase : base ≤ w.heap.size) :
    ∃ g cap w', (Builtin.append_ #[t, t] ty #[.slice (some ⟨gv, 0, none⟩) n cv, .slice (some ad) m c]).run P w = .ok (.slice (some ⟨g, 0, none⟩) (n + m) cap) w' ∧
      w'.ownsRow base e size (.slice (some ⟨g, 0, none⟩) (n + m) cap) (n + m) (xs ++ news) ∧ w.grownBy w' (some gv) ∧ Below base w w' ∧ (g = gv ∨ g = w.heap.size) := by
  obtain ⟨v', w', hr, h2, h3, h4, h5⟩ := run_append_own_at (P := P) w base t ty e i z size bytes ht hi hz hsize hby hzs hsz _ n xs hown ad m c news hl hnews h1 h63 hbytes hbase
  obtain ⟨g, cap, rfl⟩ := row_some h2 (fun h => by have := (h4.1 h).1; cases this)
  refine ⟨g, cap, w', hr, h2, h3, row_below hown h3 hbase, ?_⟩
  rcases h5 with h5 | h5
  · exact .inl (by simpa [Value.ownBlock] using h5)
  · exact .inr (by simpa [Value.ownBlock] using h5)
theorem wp_app2 {o : Oper} {a : Act} {K : Act → World → Prop} {Q : Exit → Act → World → Prop} (s x : Operand) (t : TypeId)
    (ho : o.op = .call { callee := .builtin .append, args := #[s, x], argTypes := #[t, t] })
    (base : Nat) (e : TypeId) (i : TypeInfo) (z : Value) (size bytes : Nat) (ht : P.underlying t = some (.slice e)) (hi : P.info? e = some i) (hz : i.zero = some z)
    (hsize : i.size = size) (hby : i.bytes = bytes) (hzs : z.cells.size = size) (hsz : 0 < size)
    (gv cv n : Nat) (xs : List Value) (hs : a.eval s = .slice (some ⟨gv, 0, none⟩) n cv) (hown : w.ownsRow base e size (.slice (some ⟨gv, 0, none⟩) n cv) n xs)
    (ad : Addr) (m c : Nat) (news : List Value) (hx : a.eval x = .slice (some ad) m c) (hl : news.length = m * size) (hnews : ∀ j u, news[j]? = some u → w.cell? (ad.add j) = some u) (h1 : ∀ u ∈ news, u.oneCell' = true)
    (h63 : n + m ≤ maxLen) (hbytes : (n + m) * bytes ≤ 140737488355328) (hbase : base ≤ w.heap.size)
    (h : ∀ g cap w', w'.ownsRow base e size (.slice (some ⟨g, 0, none⟩) (n + m) cap) (n + m) (xs ++ news) → w.grownBy w' (some gv) → Below base w w' → (g = gv ∨ g = w.heap.size) → K (a.put o.dst (.slice (some ⟨g, 0, none⟩) (n + m) cap)) w') : o.wp P a w K Q := by
  obtain ⟨g, cap, w', hr, h2, h3, h4, h5⟩ := run_app2 (P := P) w t o.type base e i z size bytes ht hi hz hsize hby hzs hsz gv cv n xs hown ad m c news hl hnews h1 h63 hbytes hbase
  unfold Oper.wp execOp
  simp only [ho, resolve, invoke, builtin, Sem.run_bind, Sem.run_pure, Result.andThen_ok, List.map_toArray, List.map_cons, List.map_nil, hs, hx, hr]
  exact h g cap w' h2 h3 h4 h5
theorem wpList_app2 {ops : Array Oper} {rest : List Oper} {o : Oper} {a : Act} {Q : Exit → Act → World → Prop} (hgd : o.guard = none) (s x : Operand) (t : TypeId)
    (ho : o.op = .call { callee := .builtin .append, args := #[s, x], argTypes := #[t, t] })
    (base : Nat) (e : TypeId) (i : TypeInfo) (z : Value) (size bytes : Nat) (ht : P.underlying t = some (.slice e)) (hi : P.info? e = some i) (hz : i.zero = some z)
    (hsize : i.size = size) (hby : i.bytes = bytes) (hzs : z.cells.size = size) (hsz : 0 < size)
    (gv cv n : Nat) (xs : List Value) (hs : a.eval s = .slice (some ⟨gv, 0, none⟩) n cv) (hown : w.ownsRow base e size (.slice (some ⟨gv, 0, none⟩) n cv) n xs)
    (ad : Addr) (m c : Nat) (news : List Value) (hx : a.eval x = .slice (some ad) m c) (hl : news.length = m * size) (hnews : ∀ j u, news[j]? = some u → w.cell? (ad.add j) = some u) (h1 : ∀ u ∈ news, u.oneCell' = true)
    (h63 : n + m ≤ maxLen) (hbytes : (n + m) * bytes ≤ 140737488355328) (hbase : base ≤ w.heap.size)
    (h : ∀ g cap w', w'.ownsRow base e size (.slice (some ⟨g, 0, none⟩) (n + m) cap) (n + m) (xs ++ news) → w.grownBy w' (some gv) → Below base w w' → (g = gv ∨ g = w.heap.size) → wpList P ops Q rest (a.put o.dst (.slice (some ⟨g, 0, none⟩) (n + m) cap)) w') : wpList P ops Q (o :: rest) a w :=
  wpList_plain hgd fun _ hK => wp_app2 w s x t ho base e i z size bytes ht hi hz hsize hby hzs hsz gv cv n xs hs hown ad m c news hx hl hnews h1 h63 hbytes hbase fun g cap w' h2 h3 h4 h5 => hK _ _ (h g cap w' h2 h3 h4 h5)
end
end Go.Proofs.Ytjcpjijihajopaa
namespace Go.Proofs.Ytjcpjijihajopaa
open Go.RowKit
set_option linter.unusedVariables false
def txt (l : List UInt8) : Value := .string ⟨l.toArray⟩
def txts (ss : List (List UInt8)) : List Value := ss.map txt
end Go.Proofs.Ytjcpjijihajopaa
namespace Go.Proofs.Ytjcpjijihajopaa
open Go.RowKit
set_option linter.unusedVariables false
structure RoomV where
  gR : Nat
  cR : Nat
  gW : Nat
  cW : Nat
  gB : Nat
  cB : Nat
  gL : Nat
  cL : Nat
abbrev RoomV.sR (v : RoomV) (r : RoomD) : Value := .slice (some ⟨v.gR, 0, none⟩) r.recs.length v.cR
abbrev RoomV.sW (v : RoomV) (r : RoomD) : Value := .slice (some ⟨v.gW, 0, none⟩) r.wait.length v.cW
abbrev RoomV.sB (v : RoomV) (r : RoomD) : Value := .slice (some ⟨v.gB, 0, none⟩) r.back.length v.cB
abbrev RoomV.sL (v : RoomV) (r : RoomD) : Value := .slice (some ⟨v.gL, 0, none⟩) r.log.length v.cL
abbrev roomA (v : RoomV) (r : RoomD) : Array Value := #[.int .i64 r.o.ln, .int .i64 r.o.op, .int .i64 r.o.pt, .int .i64 r.clk, v.sR r, v.sW r, v.sB r, v.sL r]
abbrev roomO (v : RoomV) (r : RoomD) : Obj := .cells (roomA v r) 121
structure RoomOk (w : World) (lo : Nat) (v : RoomV) (r : RoomD) : Prop where
  rc : w.ownsRow lo 50 7 (v.sR r) r.recs.length (recs r.recs)
  wt : w.ownsRow lo 140 2 (v.sW r) r.wait.length (calls r.wait)
  bk : w.ownsRow lo 140 2 (v.sB r) r.back.length (calls r.back)
  lg : w.ownsRow lo 9 1 (v.sL r) r.log.length (txts r.log)
  ap : v.gR ≠ v.gW ∧ v.gR ≠ v.gB ∧ v.gR ≠ v.gL ∧ v.gW ≠ v.gB ∧ v.gW ≠ v.gL ∧ v.gB ≠ v.gL
structure Turn (v : RoomV) (w w' : World) : Prop where
  os : w'.os = w.os
  tape : w'.tape = w.tape
  output : w'.output = w.output
  size : w.heap.size ≤ w'.heap.size
  block : ∀ b, b < w.heap.size → b ≠ v.gR → b ≠ v.gB → w'.heap[b]? = w.heap[b]?
structure Moved (n : Nat) (v v' : RoomV) : Prop where
  r : v'.gR = v.gR ∨ n ≤ v'.gR
  w : v'.gW = v.gW ∨ n ≤ v'.gW
  b : v'.gB = v.gB ∨ n ≤ v'.gB
  l : v'.gL = v.gL
section
variable {w w' w'' : World} {lo : Nat} {v v' v'' : RoomV} {r : RoomD}
theorem Turn.of_below (v : RoomV) (h : Below w.heap.size w w') : Turn v w w' := ⟨h.os, h.tape, h.output, h.size, fun b hb _ _ => h.block b hb⟩
theorem Turn.trans {n : Nat} (h : Turn v w w') (k : Turn v' w' w'') (m : Moved n v v') (hn : w.heap.size ≤ n) : Turn v w w'' :=
  ⟨k.os.trans h.os, k.tape.trans h.tape, k.output.trans h.output, Nat.le_trans h.size k.size, fun b hb h1 h2 => (k.block b (Nat.lt_of_lt_of_le hb h.size) (fun e => by rcases m.r with x | x <;> omega) (fun e => by rcases m.b with x | x <;> omega)).trans (h.block b hb h1 h2)⟩
theorem Turn.same (h : Turn v w w') (k : Turn v w' w'') : Turn v w w'' :=
  ⟨k.os.trans h.os, k.tape.trans h.tape, k.output.trans h.output, Nat.le_trans h.size k.size, fun b hb h1 h2 => (k.block b (Nat.lt_of_lt_of_le hb h.size) h1 h2).trans (h.block b hb h1 h2)⟩
theorem Moved.refl (n : Nat) (v : RoomV) : Moved n v v := ⟨.inl rfl, .inl rfl, .inl rfl, rfl⟩
theorem Moved.trans {n m : Nat} (h : Moved n v v') (k : Moved m v' v'') (hm : n ≤ m) : Moved n v v'' :=
  ⟨k.r.elim (fun e => h.r.imp (fun x => e.trans x) (fun x => by omega)) (fun x => .inr (by omega)), k.w.elim (fun e => h.w.imp (fun x => e.trans x) (fun x => by omega)) (fun x => .inr (by omega)),
   k.b.elim (fun e => h.b.imp (fun x => e.trans x) (fun x => by omega)) (fun x => .inr (by omega)), k.l.trans h.l⟩
theorem RoomOk.keep (h : RoomOk w lo v r) (k : ∀ b, b < w.heap.size → w'.heap[b]? = w.heap[b]?) : RoomOk w' lo v r := ⟨row_keep h.rc k, row_keep h.wt k, row_keep h.bk k, row_keep h.lg k, h.ap⟩
theorem RoomOk.below (h : RoomOk w lo v r) (k : Below w.heap.size w w') : RoomOk w' lo v r := h.keep fun b hb => k.block b hb
theorem RoomOk.alloc (h : RoomOk w lo v r) (o : Obj) : RoomOk (w.alloc o) lo v r := h.keep fun b hb => Below.heap_alloc w o b hb
theorem RoomOk.lts (h : RoomOk w lo v r) : lo ≤ v.gR ∧ v.gR < w.heap.size ∧ lo ≤ v.gW ∧ v.gW < w.heap.size ∧ lo ≤ v.gB ∧ v.gB < w.heap.size ∧ lo ≤ v.gL ∧ v.gL < w.heap.size :=
  ⟨(h.rc.lt _ rfl).1, (h.rc.lt _ rfl).2, (h.wt.lt _ rfl).1, (h.wt.lt _ rfl).2, (h.bk.lt _ rfl).1, (h.bk.lt _ rfl).2, (h.lg.lt _ rfl).1, (h.lg.lt _ rfl).2⟩
theorem RoomOk.slcR (h : RoomOk w lo v r) : Slc w lo w.heap.size 7 (some ⟨v.gR, 0, none⟩) r.recs.length v.cR (recs r.recs) := row_slc h.rc (by decide)
theorem RoomOk.slcW (h : RoomOk w lo v r) : Slc w lo w.heap.size 2 (some ⟨v.gW, 0, none⟩) r.wait.length v.cW (calls r.wait) := row_slc h.wt (by decide)
theorem RoomOk.slcB (h : RoomOk w lo v r) : Slc w lo w.heap.size 2 (some ⟨v.gB, 0, none⟩) r.back.length v.cB (calls r.back) := row_slc h.bk (by decide)
theorem RoomOk.clock (h : RoomOk w lo v r) (k : Int) : RoomOk w lo v { r with clk := k } := ⟨h.rc, h.wt, h.bk, h.lg, h.ap⟩
theorem RoomOk.newW {m g c : Nat} {xs : List CallD} (h : RoomOk w lo v r) (hk : ∀ b, b < w.heap.size → w'.heap[b]? = w.heap[b]?) (ho : w'.ownsRow lo 140 2 (.slice (some ⟨g, 0, none⟩) m c) m (calls xs)) (hm : m = xs.length) (hg : w.heap.size ≤ g) :
    RoomOk w' lo { v with gW := g, cW := c } { r with wait := xs } := by
  have l := h.lts
  have k := h.keep hk
  subst hm
  exact ⟨k.rc, ho, k.bk, k.lg, by have := h.ap; simp only; omega⟩
theorem RoomOk.newB {m g c : Nat} {xs : List CallD} (h : RoomOk w lo v r) (hk : ∀ b, b < w.heap.size → w'.heap[b]? = w.heap[b]?) (ho : w'.ownsRow lo 140 2 (.slice (some ⟨g, 0, none⟩) m c) m (calls xs)) (hm : m = xs.length) (hg : w.heap.size ≤ g) :
    RoomOk w' lo { v with gB := g, cB := c } { r with back := xs } := by
  have l := h.lts
  have k := h.keep hk
  subst hm
  exact ⟨k.rc, k.wt, ho, k.lg, by have := h.ap; simp only; omega⟩
theorem RoomOk.appB {m g c : Nat} {x : CallD} (h : RoomOk w lo v r) (hg : w.grownBy w' (some v.gB)) (ho : w'.ownsRow lo 140 2 (.slice (some ⟨g, 0, none⟩) m c) m (calls r.back ++ x.cells)) (hm : m = r.back.length + 1) (hw : g = v.gB ∨ w.heap.size ≤ g) :
    RoomOk w' lo { v with gB := g, cB := c } { r with back := r.back ++ [x] } := by
  have l := h.lts
  have a := h.ap
  subst hm
  refine ⟨h.rc.kept hg (.inr (by simp [Value.ownBlock]; omega)), h.wt.kept hg (.inr (by simp [Value.ownBlock]; omega)), ?_, h.lg.kept hg (.inr (by simp [Value.ownBlock]; omega)), by simp only; omega⟩
  have e : calls (r.back ++ [x]) = calls r.back ++ x.cells := calls_snoc _ _
  simp only [RoomV.sB, List.length_append, List.length_cons, List.length_nil]
  rw [e]
  exact ho
theorem RoomOk.appR {m g c : Nat} {x : RecD} (h : RoomOk w lo v r) (hg : w.grownBy w' (some v.gR)) (ho : w'.ownsRow lo 50 7 (.slice (some ⟨g, 0, none⟩) m c) m (recs r.recs ++ x.cells)) (hm : m = r.recs.length + 1) (hw : g = v.gR ∨ w.heap.size ≤ g) :
    RoomOk w' lo { v with gR := g, cR := c } { r with recs := r.recs ++ [x] } := by
  have l := h.lts
  have a := h.ap
  subst hm
  refine ⟨?_, h.wt.kept hg (.inr (by simp [Value.ownBlock]; omega)), h.bk.kept hg (.inr (by simp [Value.ownBlock]; omega)), h.lg.kept hg (.inr (by simp [Value.ownBlock]; omega)), by simp only; omega⟩
  have e : recs (r.recs ++ [x]) = recs r.recs ++ x.cells := by simp [recs]
  simp only [RoomV.sR, List.length_append, List.length_cons, List.length_nil]
  rw [e]
  exact ho
theorem RoomOk.appL {m g c : Nat} {x : List UInt8} (h : RoomOk w lo v r) (hg : w.grownBy w' (some v.gL)) (ho : w'.ownsRow lo 9 1 (.slice (some ⟨g, 0, none⟩) m c) m (txts r.log ++ [.string ⟨x.toArray⟩])) (hm : m = r.log.length + 1) (hw : g = v.gL ∨ w.heap.size ≤ g) :
    RoomOk w' lo { v with gL := g, cL := c } { r with log := r.log ++ [x] } := by
  have l := h.lts
  have a := h.ap
  subst hm
  refine ⟨h.rc.kept hg (.inr (by simp [Value.ownBlock]; omega)), h.wt.kept hg (.inr (by simp [Value.ownBlock]; omega)), h.bk.kept hg (.inr (by simp [Value.ownBlock]; omega)), ?_, by simp only; omega⟩
  have e : txts (r.log ++ [x]) = txts r.log ++ [.string ⟨x.toArray⟩] := by simp [txts, txt]
  simp only [RoomV.sL, List.length_append, List.length_cons, List.length_nil]
  rw [e]
  exact ho
end
theorem recs_modify {rs : List RecD} {i j : Nat} {d : RecD} {f : RecD → RecD} {v : Value} (hd : rs[i]? = some d) (hj : j < 7) (hs : ∀ k, k < 7 → k ≠ j → (f d).cells[k]? = d.cells[k]?) (hv : (f d).cells[j]? = some v) : (recs rs).set (i * 7 + j) v = recs (rs.modify i f) := by
  apply List.ext_getElem?
  intro q
  obtain ⟨a, b, rfl, hb⟩ : ∃ a b, q = a * 7 + b ∧ b < 7 := ⟨q / 7, q % 7, by omega, by omega⟩
  have g : ∀ (l : List RecD), (recs l)[a * 7 + b]? = (l[a]?).bind fun x => x.cells[b]? := fun l => flat_get RecD.cells (s := 7) (fun _ => rfl) l a b hb
  rw [List.getElem?_set, g, g, List.getElem?_modify]
  have hlen : (recs rs).length = rs.length * 7 := recs_len rs
  have hi := (List.getElem?_eq_some_iff.1 hd).1
  by_cases e : i * 7 + j = a * 7 + b
  · have e1 : i = a := by omega
    have e2 : j = b := by omega
    subst e1 e2
    rw [if_pos e, if_pos (by omega), hd]
    simp [hv]
  · rw [if_neg e]
    by_cases e1 : i = a
    · subst e1
      rw [hd]
      have := hs b hb (by omega)
      simp [this]
    · simp [e1]
end Go.Proofs.Ytjcpjijihajopaa
namespace Go.Proofs.Ytjcpjijihajopaa
open Go.RowKit
set_option linter.unusedVariables false
theorem usedB_succ {rs : List RecD} {k : Nat} {d : RecD} (l : Int) (h : rs[k]? = some d) : usedB (rs.take (k + 1)) l = (usedB (rs.take k) l || (d.l == l && isOpen d)) := by
  unfold usedB
  rw [List.take_add_one, h]
  simp [List.any_append]
theorem freeTo_succ (rs : List RecD) (n : Nat) : freeTo rs (n + 1) = freeTo rs n ++ (if usedB rs ((n : Int) + 1) then [] else [(n : Int) + 1]) := by
  unfold freeTo
  rw [List.range_succ, List.map_append, List.filter_append]
  congr 1
  simp only [List.map_cons, List.map_nil, List.filter_cons, List.filter_nil]
  cases usedB rs ((n : Int) + 1) <;> simp
theorem freeTo_len (rs : List RecD) (n : Nat) : (freeTo rs n).length ≤ n := by
  unfold freeTo
  exact Nat.le_trans (List.length_filter_le _ _) (by simp)
theorem ints_snoc' (xs : List Int) (x : Int) : ints (xs ++ [x]) = ints xs ++ [.int .i64 x] := by simp [ints]
theorem info_int8 : (Try.prog.info? 3).map (fun i => (i.zero, i.size, i.bytes)) = some (some (.int .i64 0), 1, 8) := by kernel_rfl
theorem offB_parts {o : OffD} (h : offB o = true) : 1 ≤ o.ln ∧ o.ln ≤ 6 ∧ 1 ≤ o.op ∧ o.op ≤ 4 ∧ 1 ≤ o.pt ∧ o.pt ≤ 60 := of_decide_eq_true h
set_option maxHeartbeats 4000000 in
set_option maxRecDepth 20000 in
theorem l6Free_any (lo : Nat) (v : RoomV) (r : RoomD) (w : World) (h : RoomOk w lo v r) (hn : r.recs.length ≤ 100000) (ho : offB r.o = true) :
    Calls Try.prog 100 #[.agg (roomA v r)] w fun e w' => ∃ x, e = .returned x ∧ NewRow 3 1 w (freeF r.o r.recs).length (ints (freeF r.o r.recs)) x w' := by
  obtain ⟨i0, hi0, hz0, hz1, hz2⟩ := info_parts info_int8
  have HI := Lib.hid (And.intro hi0 (And.intro hz0 (And.intro hz1 hz2)))
  clear hi0 hz0 hz1 hz2
  obtain ⟨l0, l1, -, -, -, -⟩ := offB_parts ho
  have hs := h.slcR
  obtain ⟨n, hnn⟩ : ∃ n, n = r.recs.length := ⟨_, rfl⟩
  have hn5 : n ≤ 100000 := by omega
  have HN := Lib.hid hnn
  obtain ⟨rs, hrs⟩ : ∃ x, x = r.recs := ⟨_, rfl⟩
  have HRS := Lib.hid hrs
  obtain ⟨gb, hgb⟩ : ∃ g, g = w.heap.size := ⟨_, rfl⟩
  have HGB := Lib.hid hgb
  obtain ⟨ln, hln⟩ : ∃ x, x = r.o.ln := ⟨_, rfl⟩
  have HLN := Lib.hid hln
  obtain ⟨m, hm⟩ : ∃ m : Nat, m = ln.toNat := ⟨_, rfl⟩
  have hlm : ln = (m : Int) := by omega
  obtain ⟨O, hO⟩ : ∃ O : Obj, O = .cells (roomA v r) 121 := ⟨_, rfl⟩
  have hk0 : (w.alloc O).heap[gb]? = some (roomO v r) := by rw [hO, hgb]; exact heap_alloc_new _ _
  have B0 : Below w.heap.size w (w.alloc O) := below_al (Below.refl _ _) O
  have hz : (w.alloc O).heap.size = gb + 1 := by rw [hgb]; simp
  have hF : freeF r.o r.recs = freeTo rs m := by unfold freeF; rw [← hln, ← hrs, ← hm]
  have HF := Lib.hid hF
  have hc0 := blk_cell hk0 0
  rw [← hnn, ← hrs] at hs
  have HH0 := Lib.hid hk0
  have HB0 := Lib.hid B0
  have HZ := Lib.hid hz
  rw [← hln] at l0 l1
  clear hF hnn hrs hgb hln hm h hc0
  have HO := Lib.hid hO
  have HMB := Lib.hid hlm
  rw [hlm] at l0 l1
  clear hO hk0 B0 hz
  go_enter Try.func100, Try.ntmps100
  go_wp2_with fail
  rw [← HO.out]
  go_loopw [3, 4] (fun x i wr => ∃ (k g L cl : Nat), k ≤ m ∧ i = .int .i64 ((k : Int) + 1) ∧ L = (freeTo rs k).length ∧ x = .slice (some ⟨g, 0, none⟩) L cl ∧ Below (gb + 1) (w.alloc O) wr ∧ wr.ownsRow (gb + 1) 3 1 (.slice (some ⟨g, 0, none⟩) L cl) L (ints (freeTo rs k))) (fun _ i _ => 1000 - (intOf i).toNat)
  case atStart =>
    have hz := HZ.out
    refine ⟨0, gb + 1, 0, 0, Nat.zero_le _, by simp, rfl, by rw [HGB.out], ?_, row_empty (Nat.le_refl _) (heap_new' _ _ hz.symm)⟩
    rw [← hz]
    exact below_al (Below.refl _ _) _
  case round =>
    obtain ⟨k, g, L, cl, hk, rfl, hL, rfl, B, hown⟩ := hrel
    have HL := Lib.hid hL
    have HOW := Lib.hid hown
    have HB := Lib.hid B
    have hzb := B.size
    have hz := HZ.out
    have hkb := (B.block gb (by omega)).trans HH0.out
    have e0 := blk_cell hkb 0
    have e4 := blk_cell hkb 4
    have hlen := freeTo_len rs k
    rw [← hL] at hlen
    have hs' := hs.below (HB0.out.trans (B.mono (by have := HGB.out; omega)))
    have e0' : wr.cell? ⟨w.heap.size, 0, none⟩ = some (.int .i64 (m : Int)) := by rw [← HGB.out, e0, ← HMB.out, HLN.out]; rfl
    have e4' : wr.cell? ⟨w.heap.size, 4, none⟩ = some (.slice (some ⟨v.gR, 0, none⟩) n v.cR) := by rw [← HGB.out, e4, HN.out]; rfl
    have HFS := Lib.hid (freeTo_succ rs k)
    have HLL := Lib.hid hs'.recLen
    clear hL hown e0 e4 hkb B hz hs
    by_cases hlt : k < m
    · obtain ⟨l, hl⟩ : ∃ l : Int, l = (k : Int) + 1 := ⟨_, rfl⟩
      have hl1 : 1 ≤ l := by omega
      have hl2 : l ≤ (m : Int) := by omega
      rw [← hl] at HFS ⊢
      have HL1 := Lib.hid hl
      clear hl
      go_wp2_with fail
      go_loop [5, 6] (fun u i => ∃ j : Nat, j ≤ n ∧ u = .bool (usedB (rs.take j) l) ∧ i = .int .i64 j) (fun _ i => n - (intOf i).toNat)
      case atStart => exact ⟨0, Nat.zero_le _, rfl, rfl⟩
      case round =>
        obtain ⟨j, hj, rfl, rfl⟩ := hrel
        by_cases hjt : j < n
        · obtain ⟨b, off, d, hA, _, _, h3, hxk, hv0, hv1, hv2, hv3, hv4, hv5, hv6⟩ := hs'.rec7 hjt
          have HU := Lib.hid (usedB_succ l hxk)
          have i0 : (0 : Int) ≤ (j : Int) := by omega
          have i1 : (j : Int) < (n : Int) := by omega
          injection hA with hA
          injection hA with hA1 hA2
          subst hA1 hA2
          simp only [Nat.zero_add] at hv1 hv6
          clear hxk hs' hv0 hv2 hv3 hv4 hv5 h3
          cases hu : usedB (rs.take j) l
          · rw [hu] at HU
            cases hq : (d.l == l)
            · have HN1 := Lib.hid (show usedB (rs.take (j + 1)) l = false by rw [HU.out, hq]; rfl)
              go_wp2
              go_round
              case rel => exact ⟨j + 1, by omega, by rw [HN1.out], by go_num⟩
              case measure => simp [intOf]; omega
            · cases hd : (d.e.toList == [111, 112, 101, 110])
              · have HN1 := Lib.hid (show usedB (rs.take (j + 1)) l = false by rw [HU.out, hq]; unfold isOpen; rw [hd]; rfl)
                go_wp2
                go_round
                case rel => exact ⟨j + 1, by omega, by rw [HN1.out], by go_num⟩
                case measure => simp [intOf]; omega
              · have HN1 := Lib.hid (show usedB (rs.take (j + 1)) l = true by rw [HU.out, hq]; unfold isOpen; rw [hd]; rfl)
                go_wp2
                go_round
                case rel => exact ⟨j + 1, by omega, by rw [HN1.out], by go_num⟩
                case measure => simp [intOf]; omega
          · rw [hu] at HU
            have HN1 := Lib.hid (show usedB (rs.take (j + 1)) l = true by rw [HU.out]; rfl)
            clear hv1 hv6
            go_wp2
            go_round
            case rel => exact ⟨j + 1, by omega, by rw [HN1.out], by go_num⟩
            case measure => simp [intOf]; omega
        · have e : j = n := by omega
          subst e
          have HT := Lib.hid (show rs.take j = rs by rw [List.take_of_length_le (by rw [HLL.out]; exact Nat.le_refl _)])
          rw [HT.out]
          clear hs'
          obtain ⟨u, hu⟩ : ∃ u, u = usedB rs l := ⟨_, rfl⟩
          rw [← hu] at HFS ⊢
          clear hu
          cases u
          · have HN1 := Lib.hid (show freeTo rs (k + 1) = freeTo rs k ++ [l] by rw [HFS.out]; rfl)
            obtain ⟨hi0, hz0, hz1, hz2⟩ := HI.out
            have HH := Lib.hid hi0
            have hzw := HZ.out
            clear hi0
            go_wp2_with (at_builtin; refine wpList_app _ rfl (.tmp 44) (.tmp 46) 73 rfl (gb + 1) 3 i0 (.int .i64 0) 1 8 Try.underlying73 HH.out hz0 hz1 hz2 rfl (by decide) (.slice (some ⟨g, 0, none⟩) L cl) L (ints (freeTo rs k)) rfl (row_keep HOW.out ?c1) (by simp) ⟨_, 0, none⟩ 1 1 [.int .i64 l] rfl rfl ?c2 (by intro u hu; simp at hu; subst hu; rfl) ?c5 ?c6 ?c7 ?_; (case c1 => exact fun b hb => Below.heap_alloc _ _ b hb); (case c2 => exact World.news_of_block (cs := #[.int .i64 l]) (heap_new' _ _ (by simp))); (case c5 => unfold maxLen; omega); (case c6 => omega); (case c7 => (simp; omega)); intro g1 c1 w1 hown1 hgr1 B1; have HO1 := Lib.hid hown1; have HB1 := Lib.hid B1; clear hown1 hgr1 B1)
            go_roundw
            case rel =>
              refine ⟨k + 1, g1, L + 1, c1, by omega, by rw [HL1.out]; push_cast; rfl, by rw [HN1.out, HL.out]; simp, rfl, ?_, ?_⟩
              · have b1 := HB.out
                exact (b1.alloc (by have := HB.out.size; have := HZ.out; omega) _).trans HB1.out
              · rw [HN1.out, ints_snoc']; exact HO1.out
            case measure => have := HL1.out; simp [intOf]; omega
          · have HN1 := Lib.hid (show freeTo rs (k + 1) = freeTo rs k by rw [HFS.out]; simp)
            go_wp2
            go_roundw
            case rel => exact ⟨k + 1, g, L, cl, by omega, by rw [HL1.out]; push_cast; rfl, by rw [HN1.out]; exact HL.out, rfl, HB.out, by rw [HN1.out]; exact HOW.out⟩
            case measure => have := HL1.out; simp [intOf]; omega
    · have e : k = m := by omega
      subst e
      clear hs'
      go_wp2
      go_ret
      refine ⟨_, rfl, g, cl, by rw [HF.out, ← HL.out]; rfl, ?_, HB0.out.trans (HB.out.mono (by have := HGB.out; omega))⟩
      rw [HF.out, ← HL.out]
      obtain ⟨h1, h2⟩ := HOW.out
      refine ⟨h1, h2.imp id fun ⟨b, cap, cur, e1, e2, e3⟩ => ⟨b, cap, cur, e1, by have := HGB.out; omega, e3⟩⟩
end Go.Proofs.Ytjcpjijihajopaa
namespace Go.Proofs.Ytjcpjijihajopaa
open Go.RowKit
set_option linter.unusedVariables false
theorem Slc.takeS {w : World} {lo hi s n c g : Nat} {xs : List Value} (h : Slc w lo hi s (some ⟨g, 0, none⟩) n c xs) {k : Nat} (hk : k ≤ n) : Slc w lo hi s (some ⟨g, 0, none⟩) k c (xs.take (k * s)) := by
  refine ⟨by rw [List.length_take, h.len]; exact Nat.min_eq_left (Nat.mul_le_mul_right _ hk), Nat.le_trans hk h.le, h.cap, fun h0 => ?_⟩
  obtain ⟨b, off, e, h1, h2, h3, h4⟩ := h.at_ (by omega)
  refine ⟨b, off, e, h1, h2, h3, fun j v hv => h4 j v ?_⟩
  rw [List.getElem?_take] at hv
  split at hv
  · exact hv
  · cases hv
theorem Slc.dropS {w : World} {lo hi s n c g : Nat} {xs : List Value} (h : Slc w lo hi s (some ⟨g, 0, none⟩) n c xs) {k : Nat} (hk : k ≤ n) : Slc w lo hi s (some ⟨g, k * s, none⟩) (n - k) (c - k) (xs.drop (k * s)) := by
  refine ⟨by rw [List.length_drop, h.len, Nat.sub_mul], by have := h.le; omega, by have := h.cap; omega, fun h0 => ?_⟩
  obtain ⟨b, off, e, h1, h2, h3, h4⟩ := h.at_ (by omega)
  injection e with e
  injection e with e1 e2
  subst e1 e2
  refine ⟨g, k * s, rfl, h1, h2, h3, fun j v hv => ?_⟩
  rw [List.getElem?_drop] at hv
  have := h4 (k * s + j) v hv
  rwa [Nat.zero_add] at this
theorem Slc.dropI {w : World} {lo hi s n c g : Nat} {xs : List Value} (h : Slc w lo hi s (some ⟨g, 0, none⟩) n c xs) {k : Nat} (hk : k ≤ n) : Slc w lo hi s (if c = k then some ⟨g, 0, none⟩ else some ⟨g, k * s, none⟩) (n - k) (c - k) (xs.drop (k * s)) := by
  have d := h.dropS hk
  by_cases e : c = k
  · rw [if_pos e]
    exact ⟨d.len, d.le, d.cap, fun h0 => by have := h.le; omega⟩
  · rw [if_neg e]; exact d
theorem calls_take (xs : List CallD) (k : Nat) : (calls xs).take (k * 2) = calls (xs.take k) := by
  induction xs generalizing k with
  | nil => simp [calls]
  | cons x xs ih =>
    cases k with
    | zero => simp [calls]
    | succ k =>
      have e : (k + 1) * 2 = k * 2 + 1 + 1 := by omega
      rw [e]
      simp only [calls, List.flatMap_cons, CallD.cells, List.cons_append, List.nil_append, List.take_succ_cons]
      have := ih k
      unfold calls at this
      rw [this]
theorem calls_drop (xs : List CallD) (k : Nat) : (calls xs).drop (k * 2) = calls (xs.drop k) := by
  induction xs generalizing k with
  | nil => simp [calls]
  | cons x xs ih =>
    cases k with
    | zero => simp [calls]
    | succ k =>
      have e : (k + 1) * 2 = k * 2 + 1 + 1 := by omega
      rw [e]
      simp only [calls, List.flatMap_cons, CallD.cells, List.cons_append, List.nil_append, List.drop_succ_cons]
      have := ih k
      unfold calls at this
      rw [this]
theorem calls_app (xs ys : List CallD) : calls (xs ++ ys) = calls xs ++ calls ys := by simp [calls]
theorem calls_one (xs : List CallD) : ∀ u ∈ calls xs, u.oneCell' = true := by
  intro u hu
  obtain ⟨d, _, hd⟩ := List.mem_flatMap.1 hu
  simp only [CallD.cells, List.mem_cons, List.not_mem_nil, or_false] at hd
  rcases hd with rfl | rfl <;> rfl
theorem queued_at {xs : List CallD} {x : CallD} {k : Nat} (hk : k ≤ xs.length) (h : ∀ j, j < k → ∀ b, xs[j]? = some b → x.p ≤ b.p) (hn : ∀ b, xs[k]? = some b → ¬ x.p ≤ b.p) : queuedF xs x = xs.take k ++ x :: xs.drop k := by
  unfold queuedF
  induction xs generalizing k with
  | nil => simp
  | cons y ys ih =>
    cases k with
    | zero =>
      have := hn y rfl
      simp [List.takeWhile_cons, List.dropWhile_cons, this]
    | succ k =>
      have hy := h 0 (by omega) y rfl
      have := ih (k := k) (by simpa using hk) (fun j hj b hb => h (j + 1) (by omega) b (by simpa using hb)) (fun b hb => hn b (by simpa using hb))
      simp [List.takeWhile_cons, List.dropWhile_cons, hy, this]
theorem held2b {W0 W : World} {a1 a2 : Addr} {v1 v2 : Value} (h : W.cell? a1 = some v1 ∧ W.cell? a2 = some v2 ∧ Below W0.heap.size W0 W) : Below W0.heap.size W0 W := h.2.2
theorem blk_cell_pair {w : World} {a b : Addr} {u v : Value} (h : w.cell? a = some u) (k : w.cell? b = some v) : w.cell? a = some u ∧ w.cell? b = some v := ⟨h, k⟩
set_option maxHeartbeats 8000000 in
set_option maxRecDepth 20000 in
theorem l6Queued_any (lo hi n c g : Nat) (xs : List CallD) (x : CallD) (w : World) (h : Slc w lo hi 2 (some ⟨g, 0, none⟩) n c (calls xs)) (hn : n ≤ 100000) :
    Calls Try.prog 103 #[.slice (some ⟨g, 0, none⟩) n c, .agg #[.int .i64 x.c, .int .i64 x.p]] w fun e w' => ∃ v, e = .returned v ∧ NewRow 140 2 w (queuedF xs x).length (calls (queuedF xs x)) v w' := by
  have hl := Lib.hid h.callsLen
  have hcap := Lib.hid h.le
  obtain ⟨i0, hi0, hz0, hz1, hz2⟩ := info_parts info_call6
  have HI := Lib.hid (And.intro hi0 (And.intro hz0 (And.intro hz1 hz2)))
  clear hi0 hz0 hz1 hz2
  obtain ⟨gb, hgb⟩ : ∃ g, g = w.heap.size := ⟨_, rfl⟩
  have HGB := Lib.hid hgb
  obtain ⟨O, hO⟩ : ∃ O : Obj, O = .cells #[.int .i64 x.c, .int .i64 x.p] 140 := ⟨_, rfl⟩
  have hk0 : (w.alloc O).heap[gb]? = some (.cells #[.int .i64 x.c, .int .i64 x.p] 140) := by rw [hO, hgb]; exact heap_alloc_new _ _
  have HK0 := Lib.hid hk0
  have HB0 := Lib.hid (below_al (Below.refl w.heap.size w) O)
  have HO := Lib.hid hO
  clear hgb hO hk0
  go_enter Try.func103, Try.ntmps103
  go_wp2_with fail
  rw [← HO.out, ← HGB.out]
  go_loopw [5] (fun i wr => ∃ k : Nat, k ≤ n ∧ i = .int .i64 k ∧ Below (w.alloc O).heap.size (w.alloc O) wr ∧ ∀ j, j < k → ∀ b, xs[j]? = some b → x.p ≤ b.p) (fun i _ => n - (intOf i).toNat)
  case atStart => exact ⟨0, Nat.zero_le _, rfl, Below.refl _ _, fun j hj => absurd hj (by omega)⟩
  case round =>
    obtain ⟨k, hk, rfl, B, hcs⟩ := hrel
    have HC := Lib.hid hcs
    have kg := (blk_below B HK0.out).1
    have zg := (blk_below B HK0.out).2
    have e0 := blk_cell kg 0
    have e1 := blk_cell kg 1
    have BW := HB0.out.trans (B.mono HB0.out.size)
    have hs := h.below BW
    have i0' : (0 : Int) ≤ (k : Int) := by omega
    have HBW := Lib.hid BW
    have HB := Lib.hid B
    clear hcs kg BW B
    by_cases hlt : k < n
    · obtain ⟨b, off, d, hA, _, _, h3, hxk, hv0, hv1⟩ := hs.callsAt hlt
      injection hA with hA
      injection hA with hA1 hA2
      subst hA1 hA2
      simp only [Nat.zero_add] at hv0 hv1
      have HX := Lib.hid hxk
      have i1 : (k : Int) < (n : Int) := by omega
      by_cases hp : x.p ≤ d.p
      · have HP := Lib.hid hp
        have hpb : decide (x.p ≤ d.p) = true := decide_eq_true hp
        clear hxk h hs h3 hv0 hp
        go_wp2_with fail
        go_quiet (fail)
        go_wp2
        go_roundw
        case rel => exact ⟨k + 1, by omega, by go_num, ⟨HB.out.os, HB.out.tape, HB.out.output, HB.out.size, HB.out.block⟩, fun j hj b hb => by
          by_cases e : j = k
          · subst e; rw [HX.out] at hb; injection hb with hb; exact hb ▸ HP.out
          · exact HC.out j (by omega) b hb⟩
        case measure => simp [intOf]; omega
      · have HQ := Lib.hid (queued_at (x := x) (k := k) (by rw [hl.out]; exact hk) HC.out (fun b hb => by rw [hxk] at hb; injection hb with hb; exact hb ▸ hp))
        have hpb : decide (x.p ≤ d.p) = false := decide_eq_false hp
        clear hxk h3 hv0 hp
        go_wp2_with fail
        go_quiet (fail)
        go_wp2_with fail
        obtain ⟨wq, hwq⟩ : ∃ y, y = wr.drewN nq := ⟨_, rfl⟩
        rw [← hwq]
        replace hs : Slc wq lo hi 2 (some ⟨g, 0, none⟩) n c (calls xs) := by rw [hwq]; exact ⟨hs.len, hs.le, hs.cap, hs.at_⟩
        replace e0 : wq.cell? ⟨gb, 0, none⟩ = some (.int .i64 x.c) := by rw [hwq]; exact e0
        replace e1 : wq.cell? ⟨gb, 1, none⟩ = some (.int .i64 x.p) := by rw [hwq]; exact e1
        replace zg : gb < wq.heap.size := by rw [hwq]; exact zg
        have HBQ := Lib.hid (show Below w.heap.size w wq by rw [hwq]; exact ⟨HBW.out.os, HBW.out.tape, HBW.out.output, HBW.out.size, HBW.out.block⟩)
        have HZQ := Lib.hid (show wr.heap.size ≤ wq.heap.size by rw [hwq]; exact Nat.le_refl _)
        clear hwq
        have HN := Lib.hid (Nat.le_refl wq.heap.size)
        have HT1 := Lib.hid (calls_take xs k ▸ hs.takeS hk)
        have HT2 := Lib.hid (calls_drop xs k ▸ hs.dropI hk)
        have HCG := Lib.hid zg
        obtain ⟨hi0, hz0, hz1, hz2⟩ := HI.out
        have HH := Lib.hid hi0
        have hcp := hcap.out
        have HKK := Lib.hid (blk_cell_pair e0 e1)
        have k1 : (k : Int) ≤ (n : Int) := by omega
        have k2 : (n : Int) ≤ (c : Int) := by omega
        have k3 : (k : Int) ≤ (c : Int) := by omega
        clear hi0 hs h
        go_region_held3 (fun W => W.cell? ⟨gb, 0, none⟩ = some (.int .i64 x.c) ∧ W.cell? ⟨gb, 1, none⟩ = some (.int .i64 x.p) ∧ Below wq.heap.size wq W)
          ((refine hb2_to (by simpa using HCG.out) (by simpa using HCG.out) HKK.out.1 HKK.out.2 ?_; (repeat' (first | with_reducible assumption | with_reducible exact held2b (by assumption) | with_reducible exact Below.refl _ _ | with_reducible apply below_al | with_reducible apply below_drew)); done))
          (first
            | (refine step_apps _ rfl (.tmp 22) (.tmp 25) 118 rfl wq.heap.size 140 i0 (.agg #[.int .i64 0, .int .i64 0]) 2 16 Try.underlying118 HH.out hz0 hz1 hz2 rfl (by decide) _ 0 0 [] rfl (row_empty ?c1 ?c2) (some ⟨g, 0, none⟩) k c _ _ (calls (xs.take k)) rfl (HT1.out.below ?c3) (calls_one _) ?c5 ?c6 ?c7 ?_; (case c1 => first | omega | (simp; done) | (simp; omega)); (case c2 => ((try with_reducible apply blk_drew); (first | with_reducible assumption | (with_reducible refine heap_new' _ _ ?_; simp) | (with_reducible refine blk_alloc ?_ _; first | with_reducible assumption | (with_reducible refine heap_new' _ _ ?_; simp)) | (with_reducible refine blk_alloc ?_ _; with_reducible refine blk_alloc ?_ _; first | with_reducible assumption | (with_reducible refine heap_new' _ _ ?_; simp)) | (with_reducible refine blk_alloc ?_ _; with_reducible refine blk_alloc ?_ _; with_reducible refine blk_alloc ?_ _; first | with_reducible assumption | (with_reducible refine heap_new' _ _ ?_; simp))))); (case c3 => (repeat' (first | with_reducible assumption | with_reducible exact held2b (by assumption) | with_reducible exact Below.refl _ _ | with_reducible apply below_al | with_reducible apply below_drew))); (case c5 => unfold maxLen; omega); (case c6 => omega); (case c7 => first | omega | (simp; done) | (simp; omega)); intro g1 c1n w9 hown1 hgr1 B1; rw [Nat.zero_add]; simp only [Nat.zero_add, List.nil_append] at hown1; have HO1 := Lib.hid hown1; have HG1 := Lib.hid hgr1; have BW : Below wq.heap.size wq w9 := Below.trans (by (repeat' (first | with_reducible assumption | with_reducible exact held2b (by assumption) | with_reducible exact Below.refl _ _ | with_reducible apply below_al | with_reducible apply below_drew))) B1; have z9 := BW.size; clear hown1 hgr1 B1)
            | (refine step_app _ rfl (.tmp 26) (.tmp 28) 118 rfl wq.heap.size 140 i0 (.agg #[.int .i64 0, .int .i64 0]) 2 16 Try.underlying118 HH.out hz0 hz1 hz2 rfl (by decide) (.slice (some ⟨g1, 0, none⟩) k c1n) k (calls (xs.take k)) rfl ?c1 (by simp) ⟨_, 0, none⟩ 1 1 [.int .i64 x.c, .int .i64 x.p] rfl rfl (World.news_of_block (cs := #[.int .i64 x.c, .int .i64 x.p]) (t := 140) (fr := (0, 0)) ?c2) (by simp [Value.oneCell']) ?c5 ?c6 ?c7 ?_; (case c1 => first | exact HO1.out | exact row_keep HO1.out (fun b hb => Below.heap_alloc _ _ b hb)); (case c2 => first | exact heap_alloc_new _ _ | exact (HG1.out.block _ (by first | (simp; done) | (simp; omega)) (by first | (simp [Value.ownBlock]; done) | (simp [Value.ownBlock]; omega))).trans (by ((try with_reducible apply blk_drew); (first | with_reducible assumption | (with_reducible refine heap_new' _ _ ?_; simp) | (with_reducible refine blk_alloc ?_ _; first | with_reducible assumption | (with_reducible refine heap_new' _ _ ?_; simp)) | (with_reducible refine blk_alloc ?_ _; with_reducible refine blk_alloc ?_ _; first | with_reducible assumption | (with_reducible refine heap_new' _ _ ?_; simp)) | (with_reducible refine blk_alloc ?_ _; with_reducible refine blk_alloc ?_ _; with_reducible refine blk_alloc ?_ _; first | with_reducible assumption | (with_reducible refine heap_new' _ _ ?_; simp)))))); (case c5 => unfold maxLen; omega); (case c6 => omega); (case c7 => first | omega | (simp; done) | (simp; omega)); intro g2 c2n w10 hown2 hgr2 B2; have HO2 := Lib.hid hown2; have BW2 : Below wq.heap.size wq w10 := Below.trans (by first | exact BW | exact below_al BW _) B2; have z10 := BW2.size; clear hown2 hgr2 B2)
            | (refine step_apps _ rfl (.tmp 29) (.tmp 32) 118 rfl wq.heap.size 140 i0 (.agg #[.int .i64 0, .int .i64 0]) 2 16 Try.underlying118 HH.out hz0 hz1 hz2 rfl (by decide) g2 (k + 1) c2n (calls (xs.take k) ++ [.int .i64 x.c, .int .i64 x.p]) rfl HO2.out (if c = k then some ⟨g, 0, none⟩ else some ⟨g, k * 2, none⟩) (n - k) (c - k) _ _ (calls (xs.drop k)) rfl (HT2.out.below BW2) (calls_one _) ?c5 ?c6 ?c7 ?_; (case c5 => unfold maxLen; omega); (case c6 => omega); (case c7 => first | omega | (simp; done) | (simp; omega)); intro g3 c3n w11 hown3 hgr3 B3; have HO3 := Lib.hid hown3; have BW3 : Below wq.heap.size wq w11 := BW2.trans B3; have z11 := BW3.size; clear hown3 hgr3 B3))
        all_goals go_wp2_with fail
        all_goals go_ret
        all_goals
          have hzw := HBQ.out.size
          have eQ : (queuedF xs x).length = k + 1 + (n - k) := by
            rw [HQ.out, List.length_append, List.length_take, List.length_cons, List.length_drop, hl.out]
            omega
          refine ⟨_, rfl, g3, c3n, ?_, ?_, HBQ.out.trans (BW3.mono hzw)⟩
          · rw [eQ]; rfl
          · obtain ⟨h1, h2⟩ := HO3.out
            have e := eQ
            have e2 : calls (queuedF xs x) = calls (xs.take k) ++ [.int .i64 x.c, .int .i64 x.p] ++ calls (xs.drop k) := by rw [HQ.out, calls_app]; simp [calls, CallD.cells]
            rw [e, e2]
            exact ⟨h1, h2.imp id fun ⟨b, cap, cur, e1, e2, e3⟩ => ⟨b, cap, cur, e1, by omega, e3⟩⟩
    · have HQ := Lib.hid (queued_at (x := x) (k := k) (by rw [hl.out]; exact hk) HC.out (fun b hb => by rw [List.getElem?_eq_none (by rw [hl.out]; omega)] at hb; cases hb))
      have hnb : decide ((k : Int) < (n : Int)) = false := decide_eq_false (by omega)
      go_wp2_with fail
      go_quiet (fail)
      go_wp2_with fail
      obtain ⟨wq, hwq⟩ : ∃ y, y = wr.drewN nq := ⟨_, rfl⟩
      rw [← hwq]
      replace hs : Slc wq lo hi 2 (some ⟨g, 0, none⟩) n c (calls xs) := by rw [hwq]; exact ⟨hs.len, hs.le, hs.cap, hs.at_⟩
      replace e0 : wq.cell? ⟨gb, 0, none⟩ = some (.int .i64 x.c) := by rw [hwq]; exact e0
      replace e1 : wq.cell? ⟨gb, 1, none⟩ = some (.int .i64 x.p) := by rw [hwq]; exact e1
      replace zg : gb < wq.heap.size := by rw [hwq]; exact zg
      have HBQ := Lib.hid (show Below w.heap.size w wq by rw [hwq]; exact ⟨HBW.out.os, HBW.out.tape, HBW.out.output, HBW.out.size, HBW.out.block⟩)
      have HZQ := Lib.hid (show wr.heap.size ≤ wq.heap.size by rw [hwq]; exact Nat.le_refl _)
      clear hwq
      have HN := Lib.hid (Nat.le_refl wq.heap.size)
      have HT1 := Lib.hid (calls_take xs k ▸ hs.takeS hk)
      have HT2 := Lib.hid (calls_drop xs k ▸ hs.dropI hk)
      have HCG := Lib.hid zg
      obtain ⟨hi0, hz0, hz1, hz2⟩ := HI.out
      have HH := Lib.hid hi0
      have hcp := hcap.out
      have HKK := Lib.hid (blk_cell_pair e0 e1)
      have k1 : (k : Int) ≤ (n : Int) := by omega
      have k2 : (n : Int) ≤ (c : Int) := by omega
      have k3 : (k : Int) ≤ (c : Int) := by omega
      clear hi0 hs h
      go_region_held3 (fun W => W.cell? ⟨gb, 0, none⟩ = some (.int .i64 x.c) ∧ W.cell? ⟨gb, 1, none⟩ = some (.int .i64 x.p) ∧ Below wq.heap.size wq W)
        ((refine hb2_to (by simpa using HCG.out) (by simpa using HCG.out) HKK.out.1 HKK.out.2 ?_; (repeat' (first | with_reducible assumption | with_reducible exact held2b (by assumption) | with_reducible exact Below.refl _ _ | with_reducible apply below_al | with_reducible apply below_drew)); done))
        (first
          | (refine step_apps _ rfl (.tmp 22) (.tmp 25) 118 rfl wq.heap.size 140 i0 (.agg #[.int .i64 0, .int .i64 0]) 2 16 Try.underlying118 HH.out hz0 hz1 hz2 rfl (by decide) _ 0 0 [] rfl (row_empty ?c1 ?c2) (some ⟨g, 0, none⟩) k c _ _ (calls (xs.take k)) rfl (HT1.out.below ?c3) (calls_one _) ?c5 ?c6 ?c7 ?_; (case c1 => first | omega | (simp; done) | (simp; omega)); (case c2 => ((try with_reducible apply blk_drew); (first | with_reducible assumption | (with_reducible refine heap_new' _ _ ?_; simp) | (with_reducible refine blk_alloc ?_ _; first | with_reducible assumption | (with_reducible refine heap_new' _ _ ?_; simp)) | (with_reducible refine blk_alloc ?_ _; with_reducible refine blk_alloc ?_ _; first | with_reducible assumption | (with_reducible refine heap_new' _ _ ?_; simp)) | (with_reducible refine blk_alloc ?_ _; with_reducible refine blk_alloc ?_ _; with_reducible refine blk_alloc ?_ _; first | with_reducible assumption | (with_reducible refine heap_new' _ _ ?_; simp))))); (case c3 => (repeat' (first | with_reducible assumption | with_reducible exact held2b (by assumption) | with_reducible exact Below.refl _ _ | with_reducible apply below_al | with_reducible apply below_drew))); (case c5 => unfold maxLen; omega); (case c6 => omega); (case c7 => first | omega | (simp; done) | (simp; omega)); intro g1 c1n w9 hown1 hgr1 B1; rw [Nat.zero_add]; simp only [Nat.zero_add, List.nil_append] at hown1; have HO1 := Lib.hid hown1; have HG1 := Lib.hid hgr1; have BW : Below wq.heap.size wq w9 := Below.trans (by (repeat' (first | with_reducible assumption | with_reducible exact held2b (by assumption) | with_reducible exact Below.refl _ _ | with_reducible apply below_al | with_reducible apply below_drew))) B1; have z9 := BW.size; clear hown1 hgr1 B1)
          | (refine step_app _ rfl (.tmp 26) (.tmp 28) 118 rfl wq.heap.size 140 i0 (.agg #[.int .i64 0, .int .i64 0]) 2 16 Try.underlying118 HH.out hz0 hz1 hz2 rfl (by decide) (.slice (some ⟨g1, 0, none⟩) k c1n) k (calls (xs.take k)) rfl ?c1 (by simp) ⟨_, 0, none⟩ 1 1 [.int .i64 x.c, .int .i64 x.p] rfl rfl (World.news_of_block (cs := #[.int .i64 x.c, .int .i64 x.p]) (t := 140) (fr := (0, 0)) ?c2) (by simp [Value.oneCell']) ?c5 ?c6 ?c7 ?_; (case c1 => first | exact HO1.out | exact row_keep HO1.out (fun b hb => Below.heap_alloc _ _ b hb)); (case c2 => first | exact heap_alloc_new _ _ | exact (HG1.out.block _ (by first | (simp; done) | (simp; omega)) (by first | (simp [Value.ownBlock]; done) | (simp [Value.ownBlock]; omega))).trans (by ((try with_reducible apply blk_drew); (first | with_reducible assumption | (with_reducible refine heap_new' _ _ ?_; simp) | (with_reducible refine blk_alloc ?_ _; first | with_reducible assumption | (with_reducible refine heap_new' _ _ ?_; simp)) | (with_reducible refine blk_alloc ?_ _; with_reducible refine blk_alloc ?_ _; first | with_reducible assumption | (with_reducible refine heap_new' _ _ ?_; simp)) | (with_reducible refine blk_alloc ?_ _; with_reducible refine blk_alloc ?_ _; with_reducible refine blk_alloc ?_ _; first | with_reducible assumption | (with_reducible refine heap_new' _ _ ?_; simp)))))); (case c5 => unfold maxLen; omega); (case c6 => omega); (case c7 => first | omega | (simp; done) | (simp; omega)); intro g2 c2n w10 hown2 hgr2 B2; have HO2 := Lib.hid hown2; have BW2 : Below wq.heap.size wq w10 := Below.trans (by first | exact BW | exact below_al BW _) B2; have z10 := BW2.size; clear hown2 hgr2 B2)
          | (refine step_apps _ rfl (.tmp 29) (.tmp 32) 118 rfl wq.heap.size 140 i0 (.agg #[.int .i64 0, .int .i64 0]) 2 16 Try.underlying118 HH.out hz0 hz1 hz2 rfl (by decide) g2 (k + 1) c2n (calls (xs.take k) ++ [.int .i64 x.c, .int .i64 x.p]) rfl HO2.out (if c = k then some ⟨g, 0, none⟩ else some ⟨g, k * 2, none⟩) (n - k) (c - k) _ _ (calls (xs.drop k)) rfl (HT2.out.below BW2) (calls_one _) ?c5 ?c6 ?c7 ?_; (case c5 => unfold maxLen; omega); (case c6 => omega); (case c7 => first | omega | (simp; done) | (simp; omega)); intro g3 c3n w11 hown3 hgr3 B3; have HO3 := Lib.hid hown3; have BW3 : Below wq.heap.size wq w11 := BW2.trans B3; have z11 := BW3.size; clear hown3 hgr3 B3))
      all_goals go_wp2_with fail
      all_goals go_ret
      all_goals
        have hzw := HBQ.out.size
        have eQ : (queuedF xs x).length = k + 1 + (n - k) := by
          rw [HQ.out, List.length_append, List.length_take, List.length_cons, List.length_drop, hl.out]
          omega
        refine ⟨_, rfl, g3, c3n, ?_, ?_, HBQ.out.trans (BW3.mono hzw)⟩
        · rw [eQ]; rfl
        · obtain ⟨h1, h2⟩ := HO3.out
          have e := eQ
          have e2 : calls (queuedF xs x) = calls (xs.take k) ++ [.int .i64 x.c, .int .i64 x.p] ++ calls (xs.drop k) := by rw [HQ.out, calls_app]; simp [calls, CallD.cells]
          rw [e, e2]
          exact ⟨h1, h2.imp id fun ⟨b, cap, cur, e1, e2, e3⟩ => ⟨b, cap, cur, e1, by omega, e3⟩⟩
end Go.Proofs.Ytjcpjijihajopaa
namespace Go.Proofs.Ytjcpjijihajopaa
open Go.RowKit
set_option linter.unusedVariables false
theorem modify_comp {α : Type} (l : List α) (i : Nat) (f g : α → α) : (l.modify i f).modify i g = l.modify i (fun x => g (f x)) := by
  apply List.ext_getElem?
  intro j
  rw [List.getElem?_modify, List.getElem?_modify, List.getElem?_modify]
  by_cases e : i = j
  · simp [e, Function.comp_def]
  · simp [e]
theorem RoomOk.setR {w : World} {lo i j : Nat} {v : RoomV} {r : RoomD} {d : RecD} {u : Value} (f : RecD → RecD) (h : RoomOk w lo v r) (hd : r.recs[i]? = some d) (hj : j < 7) (hs : ∀ k, k < 7 → k ≠ j → (f d).cells[k]? = d.cells[k]?) (hv : (f d).cells[j]? = some u) :
    RoomOk (w.setCell ⟨v.gR, i * 7 + j, none⟩ u) lo v { r with recs := r.recs.modify i f } ∧ Turn v w (w.setCell ⟨v.gR, i * 7 + j, none⟩ u) := by
  obtain ⟨h1, hg⟩ := h.rc.stored (i * 7 + j) u
  rw [recs_modify hd hj hs hv] at h1
  have a := h.ap
  refine ⟨⟨?_, h.wt.kept hg (.inr (by simp [Value.ownBlock]; omega)), h.bk.kept hg (.inr (by simp [Value.ownBlock]; omega)), h.lg.kept hg (.inr (by simp [Value.ownBlock]; omega)), a⟩, ⟨hg.os, hg.tape, hg.output, hg.size, fun b hb h1 _ => hg.block b hb (fun e => h1 (by injection e))⟩⟩
  simp only [RoomV.sR, List.length_modify]
  exact h1
theorem RoomOk.recAt {w : World} {lo i : Nat} {v : RoomV} {r : RoomD} {d : RecD} (h : RoomOk w lo v r) (hd : r.recs[i]? = some d) :
    w.cell? ⟨v.gR, i * 7, none⟩ = some (.int .i64 d.c) ∧ w.cell? ⟨v.gR, i * 7 + 1, none⟩ = some (.int .i64 d.l) ∧ w.cell? ⟨v.gR, i * 7 + 2, none⟩ = some (.int .i64 d.o) ∧ w.cell? ⟨v.gR, i * 7 + 3, none⟩ = some (.int .i64 d.f) ∧ w.cell? ⟨v.gR, i * 7 + 4, none⟩ = some (.int .i64 d.h) ∧ w.cell? ⟨v.gR, i * 7 + 5, none⟩ = some (.int .i64 d.t) ∧ w.cell? ⟨v.gR, i * 7 + 6, none⟩ = some (.string d.e) := by
  have hi := (List.getElem?_eq_some_iff.1 hd).1
  have g : ∀ j, j < 7 → w.cell? ⟨v.gR, i * 7 + j, none⟩ = d.cells[j]? := fun j hj => by
    rw [h.rc.cellAt (i * 7 + j) (by omega)]
    have := flat_get RecD.cells (s := 7) (fun _ => rfl) r.recs i j hj
    unfold recs
    rw [this, hd]; rfl
  exact ⟨g 0 (by decide), g 1 (by decide), g 2 (by decide), g 3 (by decide), g 4 (by decide), g 5 (by decide), g 6 (by decide)⟩
theorem Turn.blk {v : RoomV} {w w' : World} {b : Nat} {o : Obj} (h : Turn v w w') (hb : w.heap[b]? = some o) (h1 : b ≠ v.gR) (h2 : b ≠ v.gB) : w'.heap[b]? = some o := (h.block b (blk_lt hb) h1 h2).trans hb
theorem callAt_some {rs : List RecD} {i : Nat} {d : RecD} (h : rs[i]? = some d) : callAt rs i = d.c := by unfold callAt; rw [h]
theorem row_keep' {E s : Nat} {w w' : World} {base n g c : Nat} {xs : List Value} (h : w.ownsRow base E s (.slice (some ⟨g, 0, none⟩) n c) n xs) (hb : w'.heap[g]? = w.heap[g]?) : w'.ownsRow base E s (.slice (some ⟨g, 0, none⟩) n c) n xs := by
  obtain ⟨hl, h | ⟨b, cap, cur, e, h1, hg, h2⟩⟩ := h
  · cases h.1
  · injection e with e
    injection e with e
    injection e with e
    subst e
    exact ⟨hl, .inr ⟨g, cap, cur, by simp_all, h1, hb.trans hg, h2⟩⟩
theorem row_mono {w : World} {base base' : Nat} {e : TypeId} {size : Nat} {v : Value} {n : Nat} {xs : List Value} (h : w.ownsRow base e size v n xs) (hb : base' ≤ base) : w.ownsRow base' e size v n xs :=
  ⟨h.1, h.2.imp id fun ⟨g, cap, cur, h1, h2, h3⟩ => ⟨g, cap, cur, h1, Nat.le_trans hb h2, h3⟩⟩
theorem room_ends (v : RoomV) (r : RoomD) (i g cp : Nat) (e : ByteArray) : (roomA v r).setIfInBounds 5 (.slice (some ⟨g, 0, none⟩) (withoutF r.wait (callAt r.recs i)).length cp) = roomA { v with gW := g, cW := cp } (endsF r i e) := by
  have h : (endsF r i e).recs.length = r.recs.length := List.length_modify _ _ _
  simp only [roomA, RoomV.sR, h]
  rfl
def set8 (w : World) (b : Nat) (a0 a1 a2 a3 a4 a5 a6 a7 : Value) : World := (((((((w.setCell ⟨b, 0, none⟩ a0).setCell ⟨b, 1, none⟩ a1).setCell ⟨b, 2, none⟩ a2).setCell ⟨b, 3, none⟩ a3).setCell ⟨b, 4, none⟩ a4).setCell ⟨b, 5, none⟩ a5).setCell ⟨b, 6, none⟩ a6).setCell ⟨b, 7, none⟩ a7
theorem set8_blk {w : World} {b : Nat} {T : TypeId} {z0 z1 z2 z3 z4 z5 z6 z7 a0 a1 a2 a3 a4 a5 a6 a7 : Value} (h : w.heap[b]? = some (.cells #[z0, z1, z2, z3, z4, z5, z6, z7] T)) : (set8 w b a0 a1 a2 a3 a4 a5 a6 a7).heap[b]? = some (.cells #[a0, a1, a2, a3, a4, a5, a6, a7] T) := by
  unfold set8
  rw [blk_setCell (blk_setCell (blk_setCell (blk_setCell (blk_setCell (blk_setCell (blk_setCell (blk_setCell h a0) a1) a2) a3) a4) a5) a6) a7]
  simp only [List.setIfInBounds_toArray, List.set_cons_zero, List.set_cons_succ]
theorem set8_other {w : World} {b x : Nat} {a0 a1 a2 a3 a4 a5 a6 a7 : Value} (h : x ≠ b) : (set8 w b a0 a1 a2 a3 a4 a5 a6 a7).heap[x]? = w.heap[x]? := by
  unfold set8
  rw [Below.heap_setCell _ _ _ x h, Below.heap_setCell _ _ _ x h, Below.heap_setCell _ _ _ x h, Below.heap_setCell _ _ _ x h, Below.heap_setCell _ _ _ x h, Below.heap_setCell _ _ _ x h, Below.heap_setCell _ _ _ x h, Below.heap_setCell _ _ _ x h]
theorem set8_size (w : World) (b : Nat) (a0 a1 a2 a3 a4 a5 a6 a7 : Value) : (set8 w b a0 a1 a2 a3 a4 a5 a6 a7).heap.size = w.heap.size := by
  unfold set8
  simp only [World.size_setCell]
theorem set8_chg (w : World) (b : Nat) (a0 a1 a2 a3 a4 a5 a6 a7 : Value) : Chg b (b + 1) w (set8 w b a0 a1 a2 a3 a4 a5 a6 a7) :=
  ((((((((Chg.refl b (b + 1) w).setCell (p := ⟨b, 0, none⟩) (Nat.le_refl _) (Nat.lt_succ_self _) a0).setCell (p := ⟨b, 1, none⟩) (Nat.le_refl _) (Nat.lt_succ_self _) a1).setCell (p := ⟨b, 2, none⟩) (Nat.le_refl _) (Nat.lt_succ_self _) a2).setCell (p := ⟨b, 3, none⟩) (Nat.le_refl _) (Nat.lt_succ_self _) a3).setCell (p := ⟨b, 4, none⟩) (Nat.le_refl _) (Nat.lt_succ_self _) a4).setCell (p := ⟨b, 5, none⟩) (Nat.le_refl _) (Nat.lt_succ_self _) a5).setCell (p := ⟨b, 6, none⟩) (Nat.le_refl _) (Nat.lt_succ_self _) a6).setCell (p := ⟨b, 7, none⟩) (Nat.le_refl _) (Nat.lt_succ_self _) a7
theorem RoomOk.set8 {w : World} {lo b : Nat} {v : RoomV} {r : RoomD} {a0 a1 a2 a3 a4 a5 a6 a7 : Value} (h : RoomOk w lo v r) (hb : b ≠ v.gR ∧ b ≠ v.gW ∧ b ≠ v.gB ∧ b ≠ v.gL) : RoomOk (set8 w b a0 a1 a2 a3 a4 a5 a6 a7) lo v r :=
  ⟨row_keep' h.rc (set8_other (Ne.symm hb.1)), row_keep' h.wt (set8_other (Ne.symm hb.2.1)), row_keep' h.bk (set8_other (Ne.symm hb.2.2.1)), row_keep' h.lg (set8_other (Ne.symm hb.2.2.2)), h.ap⟩
theorem Turn.set8 {w0 w : World} {b : Nat} {v : RoomV} {a0 a1 a2 a3 a4 a5 a6 a7 : Value} (h : Turn v w0 w) (hb : w0.heap.size ≤ b) : Turn v w0 (set8 w b a0 a1 a2 a3 a4 a5 a6 a7) :=
  have c := set8_chg w b a0 a1 a2 a3 a4 a5 a6 a7
  ⟨c.os.trans h.os, c.tape.trans h.tape, c.output.trans h.output, Nat.le_trans h.size c.size, fun x hx h1 h2 => (set8_other (by omega)).trans (h.block x hx h1 h2)⟩
abbrev roomZ : Obj := .cells #[.int .i64 0, .int .i64 0, .int .i64 0, .int .i64 0, .slice none 0 0, .slice none 0 0, .slice none 0 0, .slice none 0 0] 121
set_option maxHeartbeats 8000000 in
set_option maxRecDepth 20000 in
theorem l6Ends_any (lo i : Nat) (v : RoomV) (r : RoomD) (d : RecD) (e : ByteArray) (w : World) (h : RoomOk w lo v r) (hd : r.recs[i]? = some d) (hn : r.recs.length ≤ 100000) (hnw : r.wait.length ≤ 100000) (hlo : lo ≤ w.heap.size) :
    Calls Try.prog 107 #[.agg (roomA v r), .int .i64 (i : Int), .string e] w fun x w' => ∃ g c, x = .returned (.agg (roomA { v with gW := g, cW := c } (endsF r i e))) ∧ RoomOk w' lo { v with gW := g, cW := c } (endsF r i e) ∧ Turn v w w' ∧ w.heap.size ≤ g := by
  obtain ⟨gb, hgb⟩ : ∃ g, g = w.heap.size := ⟨_, rfl⟩
  have hl := h.lts
  have hi := (List.getElem?_eq_some_iff.1 hd).1
  obtain ⟨O, hO⟩ : ∃ O : Obj, O = .cells (roomA v r) 121 := ⟨_, rfl⟩
  obtain ⟨Z, hZ⟩ : ∃ Z : Obj, Z = roomZ := ⟨_, rfl⟩
  have hk0 : ((w.alloc O).alloc Z).heap[gb]? = some (.cells (roomA v r) 121) := by rw [hO, hgb]; exact blk_alloc (heap_alloc_new _ _) _
  have hk1 : ((w.alloc O).alloc Z).heap[gb + 1]? = some roomZ := by rw [← hZ]; exact heap_new' _ _ (by rw [hgb]; simp)
  have hr1 := (h.alloc O).alloc Z
  have T1 : Turn v w ((w.alloc O).alloc Z) := Turn.of_below v (below_al (below_al (Below.refl _ _) _) _)
  have HK0 := Lib.hid hk0
  have HK1 := Lib.hid hk1
  have HR1 := Lib.hid hr1
  have HT1 := Lib.hid T1
  have HO := Lib.hid hO
  have HZ := Lib.hid (show Z = .cells #[.int .i64 0, .int .i64 0, .int .i64 0, .int .i64 0, .slice none 0 0, .slice none 0 0, .slice none 0 0, .slice none 0 0] 121 from hZ)
  have HGB := Lib.hid hgb
  have HD := Lib.hid hd
  clear hO hZ hgb hk0 hk1 hr1 T1 hd h
  have i0 : (0 : Int) ≤ (i : Int) := by omega
  have i1 : (i : Int) < (r.recs.length : Int) := by omega
  go_enter Try.func107, Try.ntmps107
  go_upto_region 1 with fail
  rw [← HO.out, ← HZ.out, ← HGB.out]
  obtain ⟨W1, hW1⟩ : ∃ y, y = (w.alloc O).alloc Z := ⟨_, rfl⟩
  have hz1 : W1.heap.size = gb + 2 := by rw [hW1, HGB.out]; simp
  rw [← hW1] at HK0 HK1 HR1 HT1 ⊢
  have HZ1 := Lib.hid hz1
  have hgR : gb ≠ v.gR := by have := HGB.out; omega
  have hgB : gb ≠ v.gB := by have := HGB.out; omega
  have hgR1 : gb + 1 ≠ v.gR := by have := HGB.out; omega
  have hgB1 : gb + 1 ≠ v.gB := by have := HGB.out; omega
  clear hW1 hz1
  have k := blk_cell HK0.out
  obtain ⟨c0, c1, c2, c3, c4, c5, c6⟩ := HR1.out.recAt HD.out
  have fz := fun j => HR1.out.rc.frozenAt j
  have k3 := k 3
  have k4 := k 4
  have S1 := HR1.out.setR (fun d => { d with t := r.clk }) HD.out (j := 5) (by decide) (by intro k hk hne; have hk' : k = 0 ∨ k = 1 ∨ k = 2 ∨ k = 3 ∨ k = 4 ∨ k = 6 := (by omega); rcases hk' with rfl | rfl | rfl | rfl | rfl | rfl <;> rfl) rfl
  have HS1 := Lib.hid S1
  clear S1 k
  go_upto_region 2 with fail
  obtain ⟨W2, hW2⟩ : ∃ y, y = W1.setCell ⟨v.gR, i * 7 + 5, none⟩ (.int .i64 r.clk) := ⟨_, rfl⟩
  rw [← hW2] at HS1 ⊢
  have hd2 : (r.recs.modify i fun d => { d with t := r.clk })[i]? = some { d with t := r.clk } := by rw [List.getElem?_modify]; simp [HD.out]
  have HD2 := Lib.hid hd2
  have HK02 := Lib.hid (HS1.out.2.blk HK0.out hgR hgB)
  have HK12 := Lib.hid (HS1.out.2.blk HK1.out hgR1 hgB1)
  clear hW2 c0 c1 c2 c3 c4 c5 c6 fz k3 k4 hd2
  have k4 := blk_cell HK02.out 4
  obtain ⟨c0, c1, c2, c3, c4, c5, c6⟩ := HS1.out.1.recAt HD2.out
  have fz := fun j => HS1.out.1.rc.frozenAt j
  have S2 := HS1.out.1.setR (fun d => { d with e := e }) HD2.out (j := 6) (by decide) (by intro k hk hne; have hk' : k = 0 ∨ k = 1 ∨ k = 2 ∨ k = 3 ∨ k = 4 ∨ k = 5 := (by omega); rcases hk' with rfl | rfl | rfl | rfl | rfl | rfl <;> rfl) rfl
  rw [modify_comp] at S2
  have HS2 := Lib.hid S2
  clear S2
  go_upto_region 3 with fail
  obtain ⟨W3, hW3⟩ : ∃ y, y = W2.setCell ⟨v.gR, i * 7 + 6, none⟩ (.string e) := ⟨_, rfl⟩
  rw [← hW3] at HS2 ⊢
  have hd3 : (r.recs.modify i fun d => { d with t := r.clk, e := e })[i]? = some { d with t := r.clk, e := e } := by rw [List.getElem?_modify]; simp [HD.out]
  have HD3 := Lib.hid hd3
  have HT3 := Lib.hid (HT1.out.same (HS1.out.2.same HS2.out.2))
  have hk03 := HS2.out.2.blk HK02.out hgR hgB
  have HK13 := Lib.hid (HS2.out.2.blk HK12.out hgR1 hgB1)
  have HR3 := Lib.hid (show RoomOk W3 lo v { r with recs := endRec r i e } from HS2.out.1)
  have hz3 : gb + 2 ≤ W3.heap.size := by have := HT3.out.size; have := HZ1.out; have := HS1.out.2.size; have := HS2.out.2.size; omega
  clear hW3 c0 c1 c2 c3 c4 c5 c6 fz k4 hd3
  have k4 := blk_cell hk03 4
  have k5 := blk_cell hk03 5
  have fz := blk_frozen' hk03
  obtain ⟨c0, -, -, -, -, -, -⟩ := HS2.out.1.recAt HD3.out
  have HK03 := Lib.hid hk03
  have hsW := HR3.out.slcW
  have HSW := Lib.hid hsW
  clear hk03 hsW
  go_cut [] from 20 to 29 (fun wx => ∃ g c, wx.heap[gb]? = some (roomO { v with gW := g, cW := c } (endsF r i e)) ∧ wx.heap[gb + 1]? = some roomZ ∧ RoomOk wx lo { v with gW := g, cW := c } (endsF r i e) ∧ Turn v w wx ∧ w.heap.size ≤ g ∧ gb + 1 < g)
  case first =>
    go_region_with (go_at_call 106; refine (l6Without_any lo W3.heap.size r.wait.length v.cW (some ⟨v.gW, 0, none⟩) r.wait d.c W3.drew (HSW.out.keep (Nat.le_refl _) (fun _ _ _ _ => rfl)) hnw).mono ?_; rintro x w4 ⟨_, rfl, g, cp, rfl, hown, b4⟩; have k0 := (blk_below b4 (blk_drew HK03.out)).1; have k5 := blk_cell k0 5; have fz := blk_frozen' k0; have z4 := blk_lt k0; have HO4 := Lib.hid hown; clear hown)
    all_goals
      go_wp2_with fail
      go_meet
      have hca := callAt_some HD.out
      have hb4 := HT3.out.size
      have hg : W3.heap.size ≤ g := (HO4.out.lt g rfl).1
      have hke : ∀ b, b < W3.heap.size → b ≠ gb → (w4.setCell ⟨gb, 5, none⟩ (.slice (some ⟨g, 0, none⟩) (withoutF r.wait d.c).length cp)).heap[b]? = W3.heap[b]? := fun b hb hne => (Below.heap_setCell w4 _ _ b hne).trans (b4.block b hb)
      have l3 := HR3.out.lts
      have hgb := HGB.out
      refine ⟨g, cp, ?_, (hke _ (blk_lt HK13.out) (by omega)).trans HK13.out, ?_, ⟨b4.os.trans HT3.out.os, b4.tape.trans HT3.out.tape, b4.output.trans HT3.out.output, ?_, fun b hb h1 h2 => (hke b (by omega) (by omega)).trans (HT3.out.block b hb h1 h2)⟩, by omega, by omega⟩
      · rw [blk_setCell k0, ← hca]
        rw [room_ends v r i g cp e]
      · have a := HR3.out.ap
        have hk : ∀ b, b < w.heap.size → W3.heap.size ≤ W3.heap.size := fun _ _ => Nat.le_refl _
        have row : (w4.setCell ⟨gb, 5, none⟩ (.slice (some ⟨g, 0, none⟩) (withoutF r.wait d.c).length cp)).ownsRow W3.heap.size 140 2 (.slice (some ⟨g, 0, none⟩) (withoutF r.wait d.c).length cp) (withoutF r.wait d.c).length (calls (withoutF r.wait d.c)) := row_keep' HO4.out (Below.heap_setCell w4 _ _ g (by show g ≠ gb; omega))
        have keepRow : ∀ {E s n : Nat} {A : Nat} {c : Nat} {xs : List Value}, A < gb → W3.ownsRow lo E s (.slice (some ⟨A, 0, none⟩) n c) n xs → (w4.setCell ⟨gb, 5, none⟩ (.slice (some ⟨g, 0, none⟩) (withoutF r.wait d.c).length cp)).ownsRow lo E s (.slice (some ⟨A, 0, none⟩) n c) n xs := fun {E s n A c xs} hA h => row_keep' h (hke A (h.lt A rfl).2 (by omega))
        have l0 := hl
        refine ⟨keepRow (by show v.gR < gb; omega) HR3.out.rc, ?_, keepRow (by show v.gB < gb; omega) HR3.out.bk, keepRow (by show v.gL < gb; omega) HR3.out.lg, by simp only at *; omega⟩
        have := row_mono row (base' := lo) (by omega)
        rw [← hca] at this ⊢
        exact this
      · rw [World.size_setCell]; have := b4.size; omega
  case rest =>
    obtain ⟨g, c, kb, kr, hR, hT, hg, hgap'⟩ := hcut
    have hgap : g < gb ∨ gb + 1 < g := .inr hgap'
    have k := blk_cell kb
    have k0 := k 0
    have k1 := k 1
    have k2 := k 2
    have k3 := k 3
    have k4 := k 4
    have k5 := k 5
    have k6 := k 6
    have k7 := k 7
    have q := blk_cell kr
    have q0 := q 0
    have q1 := q 1
    have q2 := q 2
    have q3 := q 3
    have q4 := q 4
    have q5 := q 5
    have q6 := q 6
    have q7 := q 7
    have qf := blk_frozen' kr
    have HR := Lib.hid hR
    have HT := Lib.hid hT
    have HG := Lib.hid hg
    have HKR := Lib.hid kr
    clear hR hT hg kb kr k q
    go_wp2
    have er := blk_cell (set8_blk (a0 := .int .i64 (endsF r i e).o.ln) (a1 := .int .i64 (endsF r i e).o.op) (a2 := .int .i64 (endsF r i e).o.pt) (a3 := .int .i64 (endsF r i e).clk) (a4 := .slice (some ⟨v.gR, 0, none⟩) (endsF r i e).recs.length v.cR) (a5 := .slice (some ⟨g, 0, none⟩) (endsF r i e).wait.length c) (a6 := .slice (some ⟨v.gB, 0, none⟩) (endsF r i e).back.length v.cB) (a7 := .slice (some ⟨v.gL, 0, none⟩) (endsF r i e).log.length v.cL) HKR.out)
    have l := HR.out.lts
    have hgb := HGB.out
    have hgg := HG.out
    have hl' := hl
    have a := HR.out.ap
    refine bodyPost_ret (v := .agg (roomA { v with gW := g, cW := c } (endsF r i e))) ?_ rfl ⟨g, c, rfl, HR.out.set8 ?_, HT.out.set8 (by omega), hgg⟩
    · unfold set8 at er
      simp [results, Try.results107, go_sem, er]
    · have hgz : g < gb ∨ gb + 1 < g := hgap
      simp only
      omega
end Go.Proofs.Ytjcpjijihajopaa
namespace Go.Proofs.Ytjcpjijihajopaa
open Go.RowKit
set_option linter.unusedVariables false
structure RoomAt (w0 w : World) (lo gb k : Nat) (v0 v : RoomV) (r : RoomD) : Prop where
  ok : RoomOk w lo v r
  turn : Turn v0 w0 w
  moved : Moved gb v0 v
  base : gb = w0.heap.size
  blk : w.heap[gb]? = some (.cells (roomA v r) 121)
  size : gb + k ≤ w.heap.size
  kpos : 0 < k
  aR : v.gR < gb ∨ gb + k ≤ v.gR
  aW : v.gW < gb ∨ gb + k ≤ v.gW
  aB : v.gB < gb ∨ gb + k ≤ v.gB
  aL : v.gL < gb ∨ gb + k ≤ v.gL
  lob : lo ≤ gb
section
variable {w0 w w' : World} {lo gb k : Nat} {v0 v : RoomV} {r : RoomD}
theorem RoomAt.keep (h : RoomAt w0 w lo gb k v0 v r) (b : Below w.heap.size w w') : RoomAt w0 w' lo gb k v0 v r :=
  ⟨h.ok.below b, h.turn.same (Turn.of_below v0 b), h.moved, h.base, (b.block _ (blk_lt h.blk)).trans h.blk, Nat.le_trans h.size b.size, h.kpos, h.aR, h.aW, h.aB, h.aL, h.lob⟩
theorem RoomAt.alloc (h : RoomAt w0 w lo gb k v0 v r) (o : Obj) : RoomAt w0 (w.alloc o) lo gb k v0 v r := h.keep (below_al (Below.refl _ _) o)
theorem RoomAt.drew (h : RoomAt w0 w lo gb k v0 v r) : RoomAt w0 w.drew lo gb k v0 v r := h.keep ⟨rfl, rfl, rfl, Nat.le_refl _, fun _ _ => rfl⟩
theorem room_R (v : RoomV) (r : RoomD) (g c : Nat) (xs : List RecD) : (roomA v r).setIfInBounds 4 (.slice (some ⟨g, 0, none⟩) xs.length c) = roomA { v with gR := g, cR := c } { r with recs := xs } := rfl
theorem room_W (v : RoomV) (r : RoomD) (g c : Nat) (xs : List CallD) : (roomA v r).setIfInBounds 5 (.slice (some ⟨g, 0, none⟩) xs.length c) = roomA { v with gW := g, cW := c } { r with wait := xs } := rfl
theorem room_B (v : RoomV) (r : RoomD) (g c : Nat) (xs : List CallD) : (roomA v r).setIfInBounds 6 (.slice (some ⟨g, 0, none⟩) xs.length c) = roomA { v with gB := g, cB := c } { r with back := xs } := rfl
theorem room_L (v : RoomV) (r : RoomD) (g c : Nat) (xs : List (List UInt8)) : (roomA v r).setIfInBounds 7 (.slice (some ⟨g, 0, none⟩) xs.length c) = roomA { v with gL := g, cL := c } { r with log := xs } := rfl
theorem blk_grown6 {N g : Nat} {o : Obj} (hb : w.grownBy w' (some g)) (hN : w.heap[N]? = some o) (hne : N ≠ g) : w'.heap[N]? = some o ∧ N < w'.heap.size :=
  ⟨(hb.block N (blk_lt hN) (by simp; exact hne)).trans hN, Nat.lt_of_lt_of_le (blk_lt hN) hb.size⟩
theorem grown_store {row : Nat} {b i : Nat} {u : Value} (hg : w.grownBy w' (some row)) {x : Nat} (hx : x < w.heap.size) (h1 : x ≠ row) (h2 : x ≠ b) : (w'.setCell ⟨b, i, none⟩ u).heap[x]? = w.heap[x]? :=
  (Below.heap_setCell w' _ _ x h2).trans (hg.block x hx (by simp; exact h1))
theorem RoomOk.setCell {b i : Nat} {u : Value} (h : RoomOk w lo v r) (hb : b ≠ v.gR ∧ b ≠ v.gW ∧ b ≠ v.gB ∧ b ≠ v.gL) : RoomOk (w.setCell ⟨b, i, none⟩ u) lo v r :=
  ⟨row_keep' h.rc (Below.heap_setCell w _ _ _ (Ne.symm hb.1)), row_keep' h.wt (Below.heap_setCell w _ _ _ (Ne.symm hb.2.1)), row_keep' h.bk (Below.heap_setCell w _ _ _ (Ne.symm hb.2.2.1)), row_keep' h.lg (Below.heap_setCell w _ _ _ (Ne.symm hb.2.2.2)), h.ap⟩
theorem RoomAt.appB {m g c : Nat} {x : CallD} (h : RoomAt w0 w lo gb k v0 v r) (hg : w.grownBy w' (some v.gB)) (ho : w'.ownsRow lo 140 2 (.slice (some ⟨g, 0, none⟩) m c) m (calls r.back ++ x.cells)) (hm : m = r.back.length + 1) (hw : g = v.gB ∨ g = w.heap.size) :
    RoomAt w0 (w'.setCell ⟨gb, 6, none⟩ (.slice (some ⟨g, 0, none⟩) m c)) lo gb k v0 { v with gB := g, cB := c } { r with back := r.back ++ [x] } := by
  have hk := h.ok.appB hg ho hm (by omega)
  have sz := h.size
  have kp := h.kpos
  have aR := h.aR; have aW := h.aW; have aB := h.aB; have aL := h.aL
  have l := h.ok.lts
  have hs := hg.size
  have hba := h.base
  have kb := (blk_grown6 hg h.blk (by omega)).1
  have hgn : g ≠ gb := by omega
  refine ⟨hk.setCell (by refine ⟨?_, ?_, ?_, ?_⟩ <;> (simp only; omega)), ?_, ⟨h.moved.r, h.moved.w, ?_, h.moved.l⟩, h.base, ?_, ?_, kp, aR, aW, ?_, aL, h.lob⟩
  · have t := h.turn
    have mb := h.moved.b
    refine ⟨hg.os.trans t.os, hg.tape.trans t.tape, hg.output.trans t.output, ?_, fun b hb h1 h2 => ?_⟩
    · rw [World.size_setCell]; have := t.size; omega
    · exact (grown_store hg (by have := t.size; omega) (by omega) (by omega)).trans (t.block b hb h1 h2)
  · have := h.moved.b
    simp only; omega
  · rw [blk_setCell kb]
    have e := room_B v r g c (r.back ++ [x])
    rw [hm]
    simp only [List.length_append, List.length_cons, List.length_nil] at e
    exact congrArg (fun a => some (Obj.cells a 121)) e
  · rw [World.size_setCell]; omega
  · simp only; omega
theorem RoomAt.appR {m g c : Nat} {x : RecD} (h : RoomAt w0 w lo gb k v0 v r) (hg : w.grownBy w' (some v.gR)) (ho : w'.ownsRow lo 50 7 (.slice (some ⟨g, 0, none⟩) m c) m (recs r.recs ++ x.cells)) (hm : m = r.recs.length + 1) (hw : g = v.gR ∨ g = w.heap.size) :
    RoomAt w0 (w'.setCell ⟨gb, 4, none⟩ (.slice (some ⟨g, 0, none⟩) m c)) lo gb k v0 { v with gR := g, cR := c } { r with recs := r.recs ++ [x] } := by
  have hk := h.ok.appR hg ho hm (by omega)
  have sz := h.size
  have kp := h.kpos
  have aR := h.aR; have aW := h.aW; have aB := h.aB; have aL := h.aL
  have l := h.ok.lts
  have hs := hg.size
  have hba := h.base
  have kb := (blk_grown6 hg h.blk (by omega)).1
  have hgn : g ≠ gb := by omega
  refine ⟨hk.setCell (by refine ⟨?_, ?_, ?_, ?_⟩ <;> (simp only; omega)), ?_, ⟨?_, h.moved.w, h.moved.b, h.moved.l⟩, h.base, ?_, ?_, kp, ?_, aW, aB, aL, h.lob⟩
  · have t := h.turn
    have mb := h.moved.r
    refine ⟨hg.os.trans t.os, hg.tape.trans t.tape, hg.output.trans t.output, ?_, fun b hb h1 h2 => ?_⟩
    · rw [World.size_setCell]; have := t.size; omega
    · exact (grown_store hg (by have := t.size; omega) (by omega) (by omega)).trans (t.block b hb h1 h2)
  · have := h.moved.r
    simp only; omega
  · rw [blk_setCell kb]
    have e := room_R v r g c (r.recs ++ [x])
    rw [hm]
    simp only [List.length_append, List.length_cons, List.length_nil] at e
    exact congrArg (fun a => some (Obj.cells a 121)) e
  · rw [World.size_setCell]; omega
  · simp only; omega
theorem RoomAt.setW {g c n : Nat} {xs : List CallD} (h : RoomAt w0 w lo gb k v0 v r) (b : Below n w w') (ho : w'.ownsRow n 140 2 (.slice (some ⟨g, 0, none⟩) xs.length c) xs.length (calls xs)) (hn : n = w.heap.size) :
    RoomAt w0 (w'.setCell ⟨gb, 5, none⟩ (.slice (some ⟨g, 0, none⟩) xs.length c)) lo gb k v0 { v with gW := g, cW := c } { r with wait := xs } := by
  subst hn
  have hg : w.heap.size ≤ g := (ho.lt g rfl).1
  have sz := h.size
  have l := h.ok.lts
  have hba := h.base
  have lob := h.lob
  have hk := h.ok.newW (w' := w') (fun x hx => b.block x hx) (row_mono ho (by omega)) rfl hg
  have kp := h.kpos
  have aR := h.aR; have aW := h.aW; have aB := h.aB; have aL := h.aL
  have hs := b.size
  have kb := (blk_below b h.blk).1
  refine ⟨hk.setCell (by refine ⟨?_, ?_, ?_, ?_⟩ <;> (simp only; omega)), ?_, ⟨h.moved.r, .inr (by simp only; omega), h.moved.b, h.moved.l⟩, h.base, ?_, ?_, kp, aR, .inr (by simp only; omega), aB, aL, h.lob⟩
  · have t := h.turn
    refine ⟨b.os.trans t.os, b.tape.trans t.tape, b.output.trans t.output, ?_, fun y hy h1 h2 => ?_⟩
    · rw [World.size_setCell]; have := t.size; omega
    · exact ((Below.heap_setCell w' _ _ y (by show y ≠ gb; omega)).trans (b.block y (by have := t.size; omega))).trans (t.block y hy h1 h2)
  · rw [blk_setCell kb]
    rw [room_W v r g c xs]
  · rw [World.size_setCell]; omega
theorem RoomAt.setB {g c n : Nat} {xs : List CallD} (h : RoomAt w0 w lo gb k v0 v r) (b : Below n w w') (ho : w'.ownsRow n 140 2 (.slice (some ⟨g, 0, none⟩) xs.length c) xs.length (calls xs)) (hn : n = w.heap.size) :
    RoomAt w0 (w'.setCell ⟨gb, 6, none⟩ (.slice (some ⟨g, 0, none⟩) xs.length c)) lo gb k v0 { v with gB := g, cB := c } { r with back := xs } := by
  subst hn
  have hg : w.heap.size ≤ g := (ho.lt g rfl).1
  have sz := h.size
  have l := h.ok.lts
  have hba := h.base
  have lob := h.lob
  have hk := h.ok.newB (w' := w') (fun x hx => b.block x hx) (row_mono ho (by omega)) rfl hg
  have kp := h.kpos
  have aR := h.aR; have aW := h.aW; have aB := h.aB; have aL := h.aL
  have hs := b.size
  have kb := (blk_below b h.blk).1
  refine ⟨hk.setCell (by refine ⟨?_, ?_, ?_, ?_⟩ <;> (simp only; omega)), ?_, ⟨h.moved.r, h.moved.w, .inr (by simp only; omega), h.moved.l⟩, h.base, ?_, ?_, kp, aR, aW, .inr (by simp only; omega), aL, h.lob⟩
  · have t := h.turn
    refine ⟨b.os.trans t.os, b.tape.trans t.tape, b.output.trans t.output, ?_, fun y hy h1 h2 => ?_⟩
    · rw [World.size_setCell]; have := t.size; omega
    · exact ((Below.heap_setCell w' _ _ y (by show y ≠ gb; omega)).trans (b.block y (by have := t.size; omega))).trans (t.block y hy h1 h2)
  · rw [blk_setCell kb]
    rw [room_B v r g c xs]
  · rw [World.size_setCell]; omega
theorem RoomAt.setR {i j : Nat} {d : RecD} {u : Value} (f : RecD → RecD) (h : RoomAt w0 w lo gb k v0 v r) (hd : r.recs[i]? = some d) (hj : j < 7) (hs : ∀ k, k < 7 → k ≠ j → (f d).cells[k]? = d.cells[k]?) (hv : (f d).cells[j]? = some u) :
    RoomAt w0 (w.setCell ⟨v.gR, i * 7 + j, none⟩ u) lo gb k v0 v { r with recs := r.recs.modify i f } := by
  obtain ⟨h1, h2⟩ := h.ok.setR f hd hj hs hv
  have l := h.ok.lts
  have hba := h.base
  have mr := h.moved.r
  have kp := h.kpos
  have aR := h.aR
  have sz := h.size
  refine ⟨h1, ?_, h.moved, h.base, ?_, by rw [World.size_setCell]; exact h.size, h.kpos, h.aR, h.aW, h.aB, h.aL, h.lob⟩
  · have t := h.turn
    refine ⟨t.os, t.tape, t.output, by rw [World.size_setCell]; exact t.size, fun y hy e1 e2 => ?_⟩
    exact (Below.heap_setCell w _ _ y (by show y ≠ v.gR; omega)).trans (t.block y hy e1 e2)
  · have e : (w.setCell ⟨v.gR, i * 7 + j, none⟩ u).heap[gb]? = w.heap[gb]? := Below.heap_setCell w _ _ gb (by show gb ≠ v.gR; omega)
    rw [e, h.blk]
    simp only [roomA, RoomV.sR, List.length_modify]
theorem RoomAt.turned {n : Nat} {v' : RoomV} {r' : RoomD} (h : RoomAt w0 w lo gb k v0 v r) (ho : RoomOk w' lo v' r') (t : Turn v w w') (m : Moved n v v') (hn : n = w.heap.size) :
    RoomOk w' lo v' r' ∧ Turn v0 w0 w' ∧ Moved gb v0 v' ∧ w'.heap[gb]? = some (.cells (roomA v r) 121) := by
  have hba := h.base
  have sz := h.size
  have kp := h.kpos
  have aR := h.aR; have aB := h.aB
  exact ⟨ho, h.turn.trans t h.moved (by omega), h.moved.trans m (by omega), t.blk h.blk (by omega) (by omega)⟩
theorem RoomAt.done {b : Nat} {a0 a1 a2 a3 a4 a5 a6 a7 : Value} (h : RoomAt w0 w lo gb k v0 v r) (hb : gb ≤ b ∧ b < gb + k) : RoomOk (set8 w b a0 a1 a2 a3 a4 a5 a6 a7) lo v r ∧ Turn v0 w0 (set8 w b a0 a1 a2 a3 a4 a5 a6 a7) ∧ Moved w0.heap.size v0 v := by
  have aR := h.aR; have aW := h.aW; have aB := h.aB; have aL := h.aL
  have hba := h.base
  exact ⟨h.ok.set8 (by omega), h.turn.set8 (by omega), hba ▸ h.moved⟩
theorem cell_alloc {a : Addr} {v : Value} (h : w.cell? a = some v) (o : Obj) : (w.alloc o).cell? a = some v := (World.cell?_alloc_some w a o (by rw [h]; rfl)).trans h
end
end Go.Proofs.Ytjcpjijihajopaa
namespace Go.Proofs.Ytjcpjijihajopaa
open Go.RowKit
set_option linter.unusedVariables false
theorem dec_big {u : Nat} (h : 9 < u) : Lib.decDigits u = Lib.decDigits (u / 10) ++ [UInt8.ofNat (48 + u % 10)] := by
  rw [Lib.decDigits, dif_neg (by omega)]
set_option maxHeartbeats 1000000 in
set_option maxRecDepth 20000 in
theorem l11Dec_any (k : Nat) (hk : k ≤ 100000000) (w : World) :
    Calls Try.prog 104 #[.int .i64 k] w fun e w' => e = .returned (.string ⟨(Lib.itoa k).toArray⟩) ∧ Below w.heap.size w w' := by
  have hI := Lib.hid (Lib.itoa_nonneg k)
  go_enter Try.func104, Try.ntmps104
  go_wp2
  go_loopw [0, 3] (fun a s wr => ∃ (u : Nat) (l : List UInt8), a = .int .i64 u ∧ s = .string ⟨l.toArray⟩ ∧ u ≤ 100000000 ∧ Lib.decDigits u ++ l = Lib.decDigits k ∧ Below w.heap.size w wr) (fun a _ _ => (intOf a).toNat)
  case atStart => exact ⟨k, [], rfl, rfl, hk, List.append_nil _, Below.refl _ _⟩
  case round =>
    obtain ⟨u, l, rfl, rfl, hu, hl, B⟩ := hrel
    have HL := Lib.hid hl
    clear hl
    have hll : l.length ≤ 20 := by have := congrArg List.length HL.out; rw [List.length_append] at this; have := dec_len (k := k) (by omega); omega
    by_cases hlt : 9 < u
    · have hcv := cv1 wr (48 + u % 10) (by omega)
      rw [show ((48 + u % 10 : Nat) : Int) = 48 + (u : Int) % 10 by omega] at hcv
      have HD := Lib.hid (dec_big hlt)
      go_wp2
      go_roundw
      case rel => exact ⟨u / 10, UInt8.ofNat (48 + u % 10) :: l, by first | rfl | (congr 1; omega), by rw [bytes_app]; simp, by omega, by rw [← HL.out, HD.out]; simp, below_al B _⟩
      case measure => simp [intOf]; omega
    · have hcv := cv1 wr (48 + u) (by omega)
      rw [show ((48 + u : Nat) : Int) = 48 + (u : Int) by omega] at hcv
      have HT := Lib.hid (show (⟨[UInt8.ofNat (48 + u)].toArray⟩ : ByteArray) ++ ⟨l.toArray⟩ = ⟨(Lib.itoa k).toArray⟩ by rw [bytes_app, hI.out, ← HL.out, Lib.decDigits_one (by omega)]; simp)
      go_wp2
      go_ret
      exact ⟨congrArg (fun x => Ending.returned (Value.string x)) (by rw [← HT.out]; simp), below_al B _⟩
end Go.Proofs.Ytjcpjijihajopaa
namespace Go.Mt
open Go.Conc Go.Tt
set_option linter.unusedVariables false
theorem isDst_lt {ops : Array Oper} {n : Nat} (h2 : (ops.all fun o => match o.dst with | some d => decide (d < n) | none => true) = true) : ∀ s, isDst ops s = true → s < n := by
  intro s hs
  unfold isDst at hs
  rw [Array.any_eq_true] at hs
  obtain ⟨i, hi, e⟩ := hs
  have h3 := Array.all_eq_true.1 h2 i hi
  have e2 : ops[i].dst = some s := by simpa using e
  rw [e2] at h3
  simpa using h3
theorem evT {Tf : Array Value} {V : Nat → Value} (hT : TfV Tf V) {s : Nat} {v : Value} (hv : V s = v) : (Go.Act.mk Tf []).eval (.tmp s) = v := (show Tf.getD s undef = v from (hT s).trans hv)
section
variable {ops : Array Oper} {Tf : Array Value} {V : Nat → Value} {o og : Oper} {j d : Nat} {b c : Bool}
theorem wanted_t (hT : TfV Tf V) (h : o.guard = some (j, b)) (hj : ops[j]? = some og) (hd : og.dst = some d) (hV : V d = .bool b) : Region.wanted o (yielded ops Tf) = true :=
  (wanted_if hT h hj hd hV).trans (by cases b <;> rfl)
theorem wanted_f (hT : TfV Tf V) (h : o.guard = some (j, c)) (hj : ops[j]? = some og) (hd : og.dst = some d) (hV : V d = .bool !c) : Region.wanted o (yielded ops Tf) = false :=
  (wanted_if hT h hj hd hV).trans (by cases c <;> rfl)
end
section
variable {p : Program} {ρ : Operand → Value} {o : Oper} {w : World}
theorem exec_mv {x : Operand} {v : Value} (ho : o.op = .move x ∨ o.op = .assign x) (hx : ρ x = v) : (execOp ρ o).run p w = .ok (.value v) w := by
  rcases ho with ho | ho <;> (unfold execOp; rw [ho, ← hx]; rfl)
theorem exec_pk {c a b : Operand} {t : Bool} {v : Value} (ho : o.op = .pick c a b) (hc : ρ c = .bool t) (hv : (if t then ρ a else ρ b) = v) : (execOp ρ o).run p w = .ok (.value v) w := by
  unfold execOp
  rw [ho, ← hv]
  cases t <;> simp [go_sem, hc]
theorem exec_pkT {c a b : Operand} {v : Value} (ho : o.op = .pick c a b) (hc : ρ c = .bool true) (hv : ρ a = v) : (execOp ρ o).run p w = .ok (.value v) w := exec_pk ho hc hv
theorem exec_pkF {c a b : Operand} {v : Value} (ho : o.op = .pick c a b) (hc : ρ c = .bool false) (hv : ρ b = v) : (execOp ρ o).run p w = .ok (.value v) w := exec_pk ho hc hv
theorem exec_app {s x : Operand} {t : TypeId} {a b v : Value} {w' : World} (ho : o.op = .call ⟨.builtin .append, #[s, x], #[t, t]⟩) (hs : ρ s = a) (hx : ρ x = b) (hr : (Builtin.append_ #[t, t] o.type #[a, b]).run p w = .ok v w') : (execOp ρ o).run p w = .ok (.value v) w' := by
  unfold execOp
  simp only [ho, resolve, invoke, builtin, Sem.run_bind, Sem.run_pure, Result.andThen_ok, List.map_toArray, List.map_cons, List.map_nil, hs, hx, hr]
section
variable {t t2 : TypeId} {a b : Operand} {x y z : Int}
theorem exec_add (ho : o.op = .binOp .add t a b t2) (ha : ρ a = .int .i64 x) (hb : ρ b = .int .i64 y) (hz : IntKind.i64.wrap (x + y) = z) : (execOp ρ o).run p w = .ok (.value (.int .i64 z)) w := by
  unfold execOp
  rw [ho]
  simp [go_sem, ha, hb, ← hz]
theorem exec_eql {r : Bool} (ho : o.op = .binOp .eql t a b t2) (ha : ρ a = .int .i64 x) (hb : ρ b = .int .i64 y) (hz : (x == y) = r) : (execOp ρ o).run p w = .ok (.value (.bool r)) w := by
  unfold execOp
  rw [ho]
  simp [go_sem, ha, hb, ← hz]
theorem exec_geq {r : Bool} (ho : o.op = .binOp .geq t a b t2) (ha : ρ a = .int .i64 x) (hb : ρ b = .int .i64 y) (hz : decide (y ≤ x) = r) : (execOp ρ o).run p w = .ok (.value (.bool r)) w := by
  unfold execOp
  rw [ho]
  simp [go_sem, ha, hb, ← hz]
end
end
def AllL (Q : Nat → Oper → Prop) : Nat → List Oper → Prop
  | _, [] => True
  | i, o :: l => Q i o ∧ AllL Q (i + 1) l
theorem allL_get {Q : Nat → Oper → Prop} : ∀ (l : List Oper) (k : Nat), AllL Q k l → ∀ (i : Nat) (o : Oper), l[i]? = some o → Q (k + i) o
  | [], k, h, i, o, e => by simp at e
  | x :: l, k, h, 0, o, e => by simp at e; subst e; exact h.1
  | x :: l, k, h, i + 1, o, e => by
    have := allL_get l (k + 1) h.2 i o (by simpa using e)
    rw [show k + (i + 1) = k + 1 + i by omega]; exact this
theorem allL_ops {Q : Nat → Oper → Prop} {ops : Array Oper} {l : List Oper} (hl : ops.toList = l) (h : AllL Q 0 l) : ∀ (i : Nat) (o : Oper), ops[i]? = some o → Q i o := fun i o e => by
  have := allL_get l 0 h i o (by rw [← hl, Array.getElem?_toList]; exact e)
  rwa [Nat.zero_add] at this
end Go.Mt
namespace Go.Mt
open Go.Conc Go.Tt
set_option linter.unusedVariables false
def fillL (vals : Nat → Value) : List (Option Tmp) → Nat → List Value → List Value
  | [], _, t => t
  | none :: l, i, t => fillL vals l (i + 1) t
  | some d :: l, i, t => fillL vals l (i + 1) (t.set d (vals i))
theorem fillT_L (ops : Array Oper) (vals : Nat → Value) (t0 : List Value) : fillT ops vals t0.toArray = (fillL vals (ops.toList.map (·.dst)) 0 t0).toArray := by
  have key : ∀ (l : List Oper) (k : Nat) (t : List Value), (∀ i, l[i]? = ops[k + i]?) →
      (List.range' k l.length).foldl (fun t i => match (ops[i]?).bind (·.dst) with | some d => t.setIfInBounds d (vals i) | none => t) t.toArray = (fillL vals (l.map (·.dst)) k t).toArray := by
    intro l
    induction l with
    | nil => intro k t _; rfl
    | cons o l ih =>
      intro k t h
      have h0 := h 0
      simp at h0
      rw [List.length_cons, List.range'_succ, List.foldl_cons, ← h0]
      simp only [Option.bind_some, List.map_cons]
      have h1 : ∀ i, l[i]? = ops[k + 1 + i]? := fun i => by have := h (i + 1); simp at this; rw [this]; congr 1; omega
      cases hd : o.dst with
      | none => exact ih (k + 1) t h1
      | some d =>
        simp only [List.setIfInBounds_toArray]
        exact ih (k + 1) _ h1
  have := key ops.toList 0 t0 (fun i => by simp)
  unfold fillT
  rw [List.range_eq_range', ← Array.length_toList]
  exact this
end Go.Mt
namespace Go.Mt
open Go.Conc Go.Tt
set_option linter.unusedVariables false
def waitsFor (o : Oper) (j : Nat) : Bool := o.after.any fun e => Region.binds .any e && e.on == j
def chainOk (ops : Array Oper) : List Nat → Bool
  | a :: b :: l => (match ops[b]? with | some o => waitsFor o a | none => false) && chainOk ops (b :: l)
  | [a] => decide (a < ops.size)
  | [] => true
def waitsT (ops : Array Oper) : Nat → Oper → Nat → Bool
  | 0, o, j => waitsFor o j
  | n + 1, o, j => waitsFor o j || o.after.any fun e => Region.binds .any e && (match ops[e.on]? with | some o' => waitsT ops n o' j | none => false)
def mayAt (ops : Array Oper) (ws : List Nat) (i k : Nat) : Bool :=
  (ws.take k).all (fun j => match ops[j]? with | some o => !waitsT ops 5 o i | none => true) && (ws.drop k).all (fun j => match ops[i]? with | some o => !waitsFor o j | none => true)
inductive OpW (P : Program) (ops : Array Oper) (ws : List Nat) (Wd : Nat → World) (Tf : Array Value) (i : Nat) (o : Oper) (v : Value) : Prop
  | no (hn : i ∉ ws) (h : Region.wanted o (yielded ops Tf) = false) (hv : v = undef)
  | val (hn : i ∉ ws) (h : Region.wanted o (yielded ops Tf) = true) (hx : ∀ k, k ≤ ws.length → mayAt ops ws i k = true → (execOp (Go.Act.mk Tf []).eval o).run P (Wd k) = .ok (.value v) (Wd k))
  | act (k : Nat) (hk : ws[k]? = some i) (h : Region.wanted o (yielded ops Tf) = true) (hx : (execOp (Go.Act.mk Tf []).eval o).run P (Wd k) = .ok (.value v) (Wd (k + 1)))
  | skp (k : Nat) (hk : ws[k]? = some i) (h : Region.wanted o (yielded ops Tf) = true) (hv : v = undef) (hx : (execOp (Go.Act.mk Tf []).eval o).run P (Wd k) = .ok .skip (Wd (k + 1)))
section
variable {P : Program} {ops : Array Oper} {ws : List Nat} {Wd : Nat → World} {Q : Exit → Go.Act → World → Prop} {t0 Tf : Array Value} {vals : Nat → Value}
structure Stg (ops : Array Oper) (ws : List Nat) (listed : Array Bool) (k : Nat) : Prop where
  closed : ∀ (i : Nat) (o : Oper), ops[i]? = some o → listed.getD i false = true → ∀ j, waitsFor o j = true → listed.getD j false = true
  le : k ≤ ws.length
  pre : ∀ (n i : Nat), ws[n]? = some i → (listed.getD i false = true ↔ n < k)
theorem Stg.closedT {listed : Array Bool} {k : Nat} (h : Stg ops ws listed k) : ∀ (n : Nat) (i : Nat) (o : Oper), ops[i]? = some o → listed.getD i false = true → ∀ j, waitsT ops n o j = true → listed.getD j false = true
  | 0, i, o, hi, hl, j, hj => h.closed i o hi hl j hj
  | n + 1, i, o, hi, hl, j, hj => by
    simp only [waitsT, Bool.or_eq_true] at hj
    rcases hj with hj | hj
    · exact h.closed i o hi hl j hj
    · rw [Array.any_eq_true] at hj
      obtain ⟨x, hx, h3⟩ := hj
      simp only [Bool.and_eq_true] at h3
      obtain ⟨h4, h5⟩ := h3
      split at h5
      · next o' ho' =>
        refine h.closedT n _ o' ho' (h.closed i o hi hl _ ?_) j h5
        unfold waitsFor
        rw [Array.any_eq_true]
        exact ⟨x, hx, by simp [h4]⟩
      · cases h5
theorem chain_step : ∀ {ws : List Nat}, chainOk ops ws = true → ∀ (n a b : Nat), ws[n]? = some a → ws[n + 1]? = some b → ∃ o, ops[b]? = some o ∧ waitsFor o a = true
  | [], _, n, a, b, h, _ => by simp at h
  | [x], _, n, a, b, h, h' => by simp at h'
  | x :: y :: l, hc, 0, a, b, h, h' => by
    simp at h h'
    subst h h'
    simp only [chainOk, Bool.and_eq_true] at hc
    have := hc.1
    split at this
    · next o e => exact ⟨o, e, this⟩
    · cases this
  | x :: y :: l, hc, n + 1, a, b, h, h' => by
    simp only [chainOk, Bool.and_eq_true] at hc
    exact chain_step hc.2 n a b (by simpa using h) (by simpa using h')
theorem getD_tf {l : Array Bool} {i : Nat} (h : l.getD i true = false) : l.getD i false = false := by
  rw [Array.getD_eq_getD_getElem?] at h ⊢
  cases e : l[i]? with
  | none => rfl
  | some x => rw [e] at h; exact h
theorem Stg.keep {listed : Array Bool} {k i : Nat} {o : Oper} (h : Stg ops ws listed k) (hi : ops[i]? = some o) (hn : i ∉ ws) (hd : ∀ j, waitsFor o j = true → listed.getD j false = true) : Stg ops ws (listed.setIfInBounds i true) k := by
  have mono : ∀ j, listed.getD j false = true → (listed.setIfInBounds i true).getD j false = true := fun j hj => by
    by_cases e : j = i
    · subst e
      rw [Array.getD_eq_getD_getElem?] at hj ⊢
      cases e2 : listed[j]? with
      | none => rw [e2] at hj; cases hj
      | some x => have : j < listed.size := (Array.getElem?_eq_some_iff.1 e2).1; simp [this]
    · rw [getD_set_ne false (Ne.symm e)]; exact hj
  refine ⟨fun a oa ha hl j hj => ?_, h.le, fun n a ha => ?_⟩
  · by_cases e : a = i
    · subst e
      rw [hi] at ha; obtain rfl := Option.some.inj ha
      exact mono j (hd j hj)
    · rw [getD_set_ne false (Ne.symm e)] at hl
      exact mono j (h.closed a oa ha hl j hj)
  · have e : a ≠ i := fun e => hn (e ▸ List.mem_of_getElem? ha)
    rw [getD_set_ne false (Ne.symm e)]
    exact h.pre n a ha
theorem Stg.next {listed : Array Bool} {k n i : Nat} {o : Oper} (hnd : ws.Nodup) (hc : chainOk ops ws = true) (h : Stg ops ws listed k) (hi : ops[i]? = some o) (hz : i < listed.size) (hn : ws[n]? = some i) (hu : listed.getD i false = false) (hd : ∀ j, waitsFor o j = true → listed.getD j false = true) :
    n = k ∧ Stg ops ws (listed.setIfInBounds i true) (k + 1) := by
  have hnl : n < ws.length := (List.getElem?_eq_some_iff.1 hn).1
  have hk : n = k := by
    have h1 : ¬ n < k := fun x => by have := (h.pre n i hn).2 x; rw [hu] at this; cases this
    rcases Nat.lt_or_ge k n with x | x
    · exfalso
      obtain ⟨m, rfl⟩ : ∃ m, n = m + 1 := ⟨n - 1, by omega⟩
      obtain ⟨a, ha⟩ : ∃ a, ws[m]? = some a := ⟨ws[m], List.getElem?_eq_getElem (by omega)⟩
      obtain ⟨o', ho', hw⟩ := chain_step hc m a i ha hn
      rw [hi] at ho'; obtain rfl := Option.some.inj ho'
      have := (h.pre m a ha).1 (hd a hw)
      omega
    · omega
  subst hk
  have mono : ∀ j, listed.getD j false = true → (listed.setIfInBounds i true).getD j false = true := fun j hj => by
    by_cases e : j = i
    · subst e; simp [hz]
    · rw [getD_set_ne false (Ne.symm e)]; exact hj
  refine ⟨rfl, fun a oa ha hl j hj => ?_, by omega, fun m a ha => ?_⟩
  · by_cases e : a = i
    · subst e
      rw [hi] at ha; obtain rfl := Option.some.inj ha
      exact mono j (hd j hj)
    · rw [getD_set_ne false (Ne.symm e)] at hl
      exact mono j (h.closed a oa ha hl j hj)
  · by_cases e : a = i
    · subst e
      have hm : m = n := by
        have h1 : m < ws.length := (List.getElem?_eq_some_iff.1 ha).1
        have e1 := (List.getElem?_eq_some_iff.1 ha).2
        have e2 := (List.getElem?_eq_some_iff.1 hn).2
        exact (List.getElem_inj hnd).1 (e1.trans e2.symm)
      subst hm
      simp [hz]
    · have hm : m ≠ n := fun x => e (by subst x; rw [hn] at ha; exact (Option.some.inj ha).symm)
      rw [getD_set_ne false (Ne.symm e), h.pre m a ha]
      omega
theorem eval_defers (t : Array Value) (d : List Deferred) : (Go.Act.mk t d).eval = (Go.Act.mk t []).eval := by funext x; cases x <;> rfl
theorem chain_lt (K : OrdOk ops) : ∀ {ws : List Nat}, chainOk ops ws = true → ∀ (n i : Nat), ws[n]? = some i → i < ops.size
  | [], _, n, i, hi => by simp at hi
  | [a], hc, 0, i, hi => by simp at hi; subst hi; simpa [chainOk] using hc
  | [a], hc, n + 1, i, hi => by simp at hi
  | a :: b :: l, hc, 0, i, hi => by
    simp at hi; subst hi
    obtain ⟨o, h1, h2⟩ := chain_step hc 0 a b rfl rfl
    unfold waitsFor at h2
    rw [Array.any_eq_true] at h2
    obtain ⟨x, hx, h3⟩ := h2
    simp only [Bool.and_eq_true, beq_iff_eq] at h3
    have := K.bk b o h1 _ (Array.getElem_mem hx) h3.1
    have hb := (Array.getElem?_eq_some_iff.1 h1).1
    omega
  | a :: b :: l, hc, n + 1, i, hi => by
    simp only [chainOk, Bool.and_eq_true] at hc
    exact chain_lt K hc.2 n i (by simpa using hi)
theorem drawnGoD (K : OrdOk ops) (hnd : ws.Nodup) (hc : chainOk ops ws = true) (hT : Mid ops vals t0 (Array.replicate ops.size true) Tf) {d : List Deferred}
    (hop : ∀ (i : Nat) (o : Oper), ops[i]? = some o → OpW P ops ws Wd Tf i o (vals i)) (hk : Q .normal ⟨Tf, d⟩ (Wd ws.length)) :
    ∀ (fuel : Nat) (listed : Array Bool) (t : Array Value) (k : Nat), listed.size = ops.size → ((List.range ops.size).filter fun i => !listed.getD i false).length ≤ fuel → Mid ops vals t0 listed t → Stg ops ws listed k →
      wpAny P .any ops Q fuel listed ⟨t, d⟩ (Wd k) := by
  have inR := chain_lt K hc
  have fin : ∀ (listed : Array Bool) (t : Array Value) (k : Nat), listed.size = ops.size → (∀ i, i < ops.size → listed.getD i false = true) → Mid ops vals t0 listed t → Stg ops ws listed k → Q .normal ⟨t, d⟩ (Wd k) := by
    intro listed t k hz hall hm hst
    have e : listed = Array.replicate ops.size true := by
      apply Array.ext_getElem?
      intro j
      by_cases hj : j < ops.size
      · have := hall j hj
        have hjl : j < listed.size := by omega
        simp [hjl] at this
        simp [hj, hjl, this]
      · rw [Array.getElem?_eq_none (by omega), Array.getElem?_eq_none (by simp; omega)]
    subst e
    have e2 := hm.unique hT
    subst e2
    have e3 : k = ws.length := by
      rcases Nat.lt_or_ge k ws.length with x | x
      · have h1 : ws[k]? = some ws[k] := List.getElem?_eq_getElem x
        have := (hst.pre k _ h1).1 (hall _ (inR k _ h1))
        omega
      · have := hst.le; omega
    rw [e3]; exact hk
  intro fuel
  induction fuel with
  | zero =>
    intro listed t k hz hcnt hm hst
    have hall : ∀ i, i < ops.size → listed.getD i false = true := fun i hi => by
      cases hl : listed.getD i false with
      | true => rfl
      | false =>
        have : i ∈ (List.range ops.size).filter fun i => !listed.getD i false := List.mem_filter.2 ⟨List.mem_range.2 hi, by rw [hl]; rfl⟩
        have := List.length_pos_of_mem this
        omega
    refine ⟨?_, fin listed t k hz hall hm hst⟩
    apply List.eq_nil_iff_forall_not_mem.2
    intro i hi
    obtain ⟨hu, o, ho, _⟩ := mem_ready.1 hi
    have := hall i (Array.getElem?_eq_some_iff.1 ho).1
    rw [getD_tf hu] at this; cases this
  | succ fuel ih =>
    intro listed t k hz hcnt hm hst
    refine ⟨fun hr => fin listed t k hz (first_ready K hz hr) hm hst, fun i hi => ?_⟩
    obtain ⟨hu, o, ho, hdep⟩ := mem_ready.1 hi
    have hu' := getD_tf hu
    have hsee := hm.sees K hT ho hdep
    have hm' := hm.step K ho hz hu
    have hil : i < ops.size := (Array.getElem?_eq_some_iff.1 ho).1
    have hw : ∀ j, waitsFor o j = true → listed.getD j false = true := fun j hj => by
      unfold waitsFor at hj
      rw [Array.any_eq_true] at hj
      obtain ⟨x, hx, h3⟩ := hj
      simp only [Bool.and_eq_true, beq_iff_eq] at h3
      have := hdep _ (Array.getElem_mem hx) h3.1
      rwa [h3.2] at this
    have hcnt' : ((List.range ops.size).filter fun j => !(listed.setIfInBounds i true).getD j false).length ≤ fuel := by
      have hlt : ((List.range ops.size).filter fun j => !(listed.setIfInBounds i true).getD j false).length < ((List.range ops.size).filter fun j => !listed.getD j false).length := by
        have e : ((List.range ops.size).filter fun j => !(listed.setIfInBounds i true).getD j false) = ((List.range ops.size).filter fun j => !listed.getD j false).filter (fun j => j != i) := by
          rw [List.filter_filter]
          apply List.filter_congr
          intro j hj
          by_cases e : j = i
          · subst e
            have : j < listed.size := by omega
            simp [this]
          · rw [getD_set_ne false (Ne.symm e)]
            simp [e]
        rw [e]
        refine List.length_filter_lt_length_iff_exists.2 ⟨i, List.mem_filter.2 ⟨List.mem_range.2 hil, ?_⟩, by simp⟩
        rw [hu']; rfl
      omega
    have put_eq : ∀ v, (Go.Act.put ⟨t, d⟩ o.dst v) = ⟨(match o.dst with | some s => t.setIfInBounds s v | none => t), d⟩ := fun v => by
      unfold Go.Act.put
      cases o.dst <;> rfl
    have goon : ∀ k', Stg ops ws (listed.setIfInBounds i true) k' → wpAny P .any ops Q fuel (listed.setIfInBounds i true) (Go.Act.put ⟨t, d⟩ o.dst (vals i)) (Wd k') := fun k' hst' => by
      rw [put_eq]
      exact ih _ _ k' (by simp [hz]) hcnt' hm' hst'
    have hev : (Go.Act.mk t d).eval = (Go.Act.mk t []).eval := eval_defers t d
    unfold wpOp
    simp only [ho]
    rcases hop i o ho with ⟨hn, h1, h2⟩ | ⟨hn, h1, h2⟩ | ⟨n, hn, h1, h2⟩ | ⟨n, hn, h1, hv, h2⟩
    · rw [if_neg (by rw [(wanted_agree hsee).trans h1]; simp), ← h2]
      exact goon k (hst.keep ho hn hw)
    · rw [if_pos ((wanted_agree hsee).trans h1)]
      refine .inl ?_
      have hmay : mayAt ops ws i k = true := by
        unfold mayAt
        rw [Bool.and_eq_true, List.all_eq_true, List.all_eq_true]
        refine ⟨fun j hj => ?_, fun j hj => ?_⟩
        · obtain ⟨m, hm2⟩ := List.getElem?_of_mem hj
          rw [List.getElem?_take] at hm2
          split at hm2
          · next hmk =>
            split
            · next oj hoj =>
              cases hq : waitsT ops 5 oj i with
              | false => rfl
              | true =>
                have := hst.closedT 5 j oj hoj ((hst.pre m j hm2).2 hmk) i hq
                rw [hu'] at this; cases this
            · rfl
          · cases hm2
        · obtain ⟨m, hm2⟩ := List.getElem?_of_mem hj
          rw [List.getElem?_drop] at hm2
          simp only [ho]
          cases hq : waitsFor o j with
          | false => rfl
          | true =>
            have := (hst.pre (k + m) j hm2).1 (hw j hq)
            omega
      show o.upon P ⟨t, d⟩ _ Q ((execOp (Go.Act.mk t d).eval o).run P (Wd k))
      rw [hev, exec_agree (K.sel i o ho) hsee, h2 k hst.le hmay]
      exact goon k (hst.keep ho hn hw)
    · rw [if_pos ((wanted_agree hsee).trans h1)]
      refine .inl ?_
      obtain ⟨rfl, hst'⟩ := hst.next hnd hc ho (by omega) hn hu' hw
      show o.upon P ⟨t, d⟩ _ Q ((execOp (Go.Act.mk t d).eval o).run P (Wd n))
      rw [hev, exec_agree (K.sel i o ho) hsee, h2]
      exact goon _ hst'
    · rw [if_pos ((wanted_agree hsee).trans h1)]
      refine .inl ?_
      obtain ⟨rfl, hst'⟩ := hst.next hnd hc ho (by omega) hn hu' hw
      show o.upon P ⟨t, d⟩ _ Q ((execOp (Go.Act.mk t d).eval o).run P (Wd n))
      rw [hev, exec_agree (K.sel i o ho) hsee, h2]
      have := goon _ hst'
      rw [hv] at this
      exact this
theorem wp_drawnD {id : Nat} {w : World} {d : List Deferred} (hm : P.follows .mixedOrders = true) (hok : ordOk ops = true) (hnd : ws.Nodup) (hc : chainOk ops ws = true) (h0 : Wd 0 = { w with drawn := w.drawn + 1 }) (hT : fillT ops vals t0 = Tf)
    (hop : ∀ (i : Nat) (o : Oper), ops[i]? = some o → OpW P ops ws Wd Tf i o (vals i)) (hk : Q .normal ⟨Tf, d⟩ (Wd ws.length)) : (Code.region id ops true).wp P Q ⟨t0, d⟩ w := by
  refine wp_region_any hm ?_
  have K := ordOk_ok hok
  subst hT
  rw [← h0]
  refine drawnGoD K hnd hc (fill_mid K) hop hk ops.size _ t0 0 (by simp) (Nat.le_trans (List.length_filter_le _ _) (by simp)) (Mid.start _ fun i => by by_cases hi : i < ops.size <;> simp [hi]) ⟨fun i o _ hl => ?_, Nat.zero_le _, fun n i hn => ?_⟩
  · exfalso
    by_cases hi : i < ops.size <;> simp [hi] at hl
  · constructor
    · intro hl
      exfalso
      by_cases hi : i < ops.size <;> simp [hi] at hl
    · intro x; omega
theorem wp_drawnDV {id : Nat} {w : World} {d : List Deferred} (hm : P.follows .mixedOrders = true) (hok : ordOk ops = true) (hnd : ws.Nodup) (hc : chainOk ops ws = true) (h0 : Wd 0 = { w with drawn := w.drawn + 1 }) (hsz : ∀ s, isDst ops s = true → s < t0.size)
    (h : ∀ V : Nat → Value, (∀ (i : Nat) (o : Oper) (d : Tmp), ops[i]? = some o → o.dst = some d → V d = vals i) → (∀ s, isDst ops s = false → V s = t0.getD s undef) →
      ∀ Tf, TfV Tf V → ∀ (i : Nat) (o : Oper), ops[i]? = some o → OpW P ops ws Wd Tf i o (valV V o)) (hk : Q .normal ⟨fillT ops vals t0, d⟩ (Wd ws.length)) : (Code.region id ops true).wp P Q ⟨t0, d⟩ w := by
  have K := ordOk_ok hok
  have M := fill_mid (vals := vals) (t0 := t0) K
  let Tf := fillT ops vals t0
  have hV1 : ∀ (i : Nat) (o : Oper) (d : Tmp), ops[i]? = some o → o.dst = some d → Tf.getD d undef = vals i := fun i o d h1 h2 => by
    have hil : i < ops.size := (Array.getElem?_eq_some_iff.1 h1).1
    rw [Array.getD_eq_getD_getElem?, M.got i o d h1 h2 (hsz d (isDst_of h1 h2)) (by simp [hil])]
    rfl
  have hV2 : ∀ s, isDst ops s = false → Tf.getD s undef = t0.getD s undef := fun s hs => by
    rw [Array.getD_eq_getD_getElem?, M.old s (fun i o h1 _ h2 => by rw [isDst_of h1 h2] at hs; cases hs), Array.getD_eq_getD_getElem?]
  have hop := h (fun s => Tf.getD s undef) hV1 hV2 Tf (fun s => rfl)
  let vals' : Nat → Value := fun i => match ops[i]? with | some o => valV (fun s => Tf.getD s undef) o | none => undef
  have e : fillT ops vals' t0 = fillT ops vals t0 := by
    refine (fill_mid (vals := vals') K).unique ⟨M.size, fun i o d h1 h2 h3 h4 => ?_, M.old⟩
    rw [M.got i o d h1 h2 h3 h4]
    show some (vals i) = some (match ops[i]? with | some o => valV (fun s => Tf.getD s undef) o | none => undef)
    rw [h1]
    simp only [valV, h2]
    rw [hV1 i o d h1 h2]
  refine wp_drawnD hm hok hnd hc h0 e (fun i o h1 => ?_) hk
  have e2 : vals' i = valV (fun s => Tf.getD s undef) o := by
    show (match ops[i]? with | some o => valV (fun s => Tf.getD s undef) o | none => undef) = _
    rw [h1]
  rw [e2]
  exact hop i o h1
end
end Go.Mt
