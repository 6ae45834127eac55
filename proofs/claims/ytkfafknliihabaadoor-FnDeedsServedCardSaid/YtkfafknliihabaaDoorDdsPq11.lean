/-
 Part 11 of what stands behind the last text.
-/
import Derived.Deep.AppendLies
import Derived.Deep.CutRange
import Derived.Test.YtkfafknliihabaaDoorCards
import Derived.SevenTiedAt
import Derived.Test.YtkfafknliihabaaDoorDdsPq10
set_option linter.unusedSectionVars false
set_option linter.unusedSimpArgs false
set_option linter.unusedVariables false
namespace Go.Proofs.YtkfafknliihabaaDoor
open Go.RowKit
structure OwnC (E s : Nat) (w : World) (lo hi : Nat) (A : Option Addr) (n c : Nat) (xs : List Value) : Prop where
 own : OwnV E s w lo hi A n c xs
 blk0 : ∀ a,A = some a -> a.spot = none /\ lo <= a.block /\ a.block < hi /\ ∃ cs T fz,w.heap[a.block]? = some (.cells cs T fz)
section
variable {E s : Nat} {w w' : World} {lo hi n c : Nat} {A : Option Addr} {xs : List Value}
theorem OwnC.slc (h : OwnC E s w lo hi A n c xs) : Slc w lo hi s A n c xs:=h.own.slc
theorem OwnC.keep (h : OwnC E s w lo hi A n c xs) (hs : w.heap.size <= w'.heap.size) (k : ∀ b,lo <= b -> b < hi -> b < w.heap.size -> w'.heap[b]? = w.heap[b]?) : OwnC E s w' lo hi A n c xs:=
 ⟨h.own.keep hs k,λ a e => by
  obtain ⟨h0,h1,h2,cs,T,fz,h3⟩:=h.blk0 a e
  exact ⟨h0,h1,h2,cs,T,fz,(k _ h1 h2 (blk_lt h3)).trans h3⟩⟩
theorem OwnC.gb {g : Nat} (h : OwnC E s w lo hi A n c xs) (hg : w.grownBy w' (some g)) (hlo : g < lo) : OwnC E s w' lo hi A n c xs:=
 h.keep hg.size λ b h1 _ h3 => hg.block b h3 (by simp; omega)
theorem OwnC.wide {lo' hi' : Nat} (h : OwnC E s w lo hi A n c xs) (h1 : lo' <= lo) (h2 : hi <= hi') : OwnC E s w lo' hi' A n c xs:=
 ⟨h.own.wide h1 h2,λ a e => by
  obtain ⟨h0,q1,q2,r⟩:=h.blk0 a e
  exact ⟨h0,by omega,by omega,r⟩⟩
theorem OwnC.from {lo' : Nat} (h : OwnC E s w lo hi A n c xs) (h1 : lo' <= lo) : OwnC E s w lo' hi A n c xs:=h.wide h1 (Nat.le_refl _)
theorem ownC_of_row {base : Nat} {v : Value} (h : w.ownsRow base E s v n xs) (hs : 0 < s) : ∃ A c,v = .slice A n c /\ OwnC E s w base w.heap.size A n c xs:=by
 obtain ⟨A,c,rfl,ho⟩:=ownV_of_row h hs
 refine ⟨A,c,rfl,ho,λ a e => ?_⟩
 subst e
 obtain ⟨hl,h | ⟨g,cap,cur,hv,hb,hg,hn,hc,hsz,ht⟩⟩:=h
 ·cases h.1
 ·cases hv
  exact ⟨rfl,hb,blk_lt hg,cur,E,(0,0),hg⟩
end
def GotS (w : World) (g : Nat) (A : Option Addr) (n c q : Nat) (e : Ending) (w' : World) : Prop:=
 ∃ s : ByteArray,e = .returned (.string s) /\ Rd w' g A n c q /\ w.grownBy w' (some g)
set_option maxHeartbeats 2000000 in
theorem of_any (g q n c l lo k kc : Nat) (A : Option Addr) (w : World) (h : Rd w g A n c q) (hq : q + 1 < 1000000000) (hk : 0 < k) (hk2 : k <= 1000000) (hl : l < w.heap.size) (hlg : l ≠ g)
  (hc : ∀ j,j < k -> ∃ v : ByteArray,w.cell? ⟨l,lo + j,none⟩ = some (.string v)) :
  Calls Tryd.prog 99 #[.pointer (some ⟨g,0,none⟩),.slice (some ⟨l,lo,none⟩) k kc] w (GotS w g A n c (q + 1)):=by
 have H:=Lib.hid hc
 clear hc
 go_enter Tryd.func99, Tryd.ntmps99
 go_wp2_with fail
 refine (pick_any g q n c A _ _ h hq (by omega) (by omega)).mono ?_
 rintro e w1 ⟨r,rfl,⟨r0,r1⟩,hr,hg⟩
 obtain ⟨v,hv⟩:=H.out r.toNat (by omega)
 have hv1:=(gb_cell hg hl hlg).trans hv
 clear hv
 go_wp2
 go_ret
 exact ⟨v,rfl,hr,hg⟩
theorem of_lits {w : World} {l : Nat} {xs : List ByteArray} {T : TypeId} {fz : Nat × Nat} (h : w.heap[l]? = some (.cells (xs.map Value.string).toArray T fz)) {k : Nat} (hk : xs.length = k) :
  ∀ j,j < k -> ∃ v : ByteArray,w.cell? ⟨l,0 + j,none⟩ = some (.string v):=λ j hj => ⟨xs[j]'(by omega),by rw [Nat.zero_add,blk_cell h]; simp [hk,hj]⟩
def GotInts (w : World) (g : Nat) (A : Option Addr) (n c q : Nat) (e : Ending) (w' : World) : Prop:=
 ∃ (A' : Option Addr) (n' c' : Nat) (xs : List Int),e = .returned (.slice A' n' c') /\ OwnC 3 1 w' w.heap.size w'.heap.size A' n' c' (ints xs) /\ n' <= 10 /\ Rd w' g A n c q /\ w.grownBy w' (some g)
theorem gotInts_of {w : World} {g : Nat} {A : Option Addr} {n c q q' k : Nat} {v : Value} {xs : List Int} {W : World} (h : DSt w g A n c q 3 1 v k (ints xs) W) (hk : k <= 10) (hq : q <= q') : GotInts w g A n c q' (.returned v) W:=by
 obtain ⟨A1,c1,rfl,ho⟩:=ownC_of_row h.own (by decide)
 exact ⟨A1,k,c1,xs,rfl,ho,hk,h.rd.mono hq,h.gr⟩
set_option maxHeartbeats 4000000 in
set_option maxRecDepth 20000 in
theorem l1Rooms_any (g q n c : Nat) (A : Option Addr) (w : World) (h : Rd w g A n c q) (hq : q < 900000000) :
  Calls Tryd.prog 67 #[.pointer (some ⟨g,0,none⟩)] w (GotInts w g A n c (q + 20)):=by
 obtain ⟨i0,hi,hz0,hz1,hz2⟩:=info_parts info_int
 have HI:=Lib.hid (And.intro hi (And.intro hz0 (And.intro hz1 hz2)))
 clear hi hz0 hz1 hz2
 have D1:=DSt.init 3 1 h
 have gb:=D1.hg
 clear h
 go_enter Tryd.func67, Tryd.ntmps67
 go_wp2_with fail
 refine (pick_any g _ n c A _ _ D1.rd (by omega) (by omega) (by omega)).mono ?_
 rintro e w2 ⟨r,rfl,⟨r0,r5⟩,hr,hg⟩
 have D2:=(D1.grown hr hg).wide (q':=q + 10 - 2 * (1 + r.toNat)) (by omega)
 clear D1 hr hg
 obtain ⟨R,rfl⟩:=Int.eq_ofNat_of_zero_le r0
 have HD2:=Lib.hid D2
 clear D2
 go_wp2
 go_loopw [3,4] (λ v i wr => ∃ (m k : Nat) (xs : List Int),i = .int .i64 m /\ m + k <= 3 /\ xs.length = k /\ DSt w g A n c (q + 10 - 2 * m) 3 1 v k (ints xs) wr) (λ _ i _ => (intOf i).toNat)
 case atStart => exact ⟨1 + R,0,[],by first | rfl | (congr 1; omega),by omega,rfl,HD2.out⟩
 case round =>
  obtain ⟨m,k,xs,rfl,hmk,hxk,D⟩:=hrel
  have HX:=Lib.hid hxk
  clear hxk
  by_cases hlt : 0 < m
  ·have z4:=D.hb
   go_wp2_with fail
   refine (num_any g _ n c _ 0 5 5 A _ (D.alloc _).rd (by omega) (by omega) (by omega) (by simp) (by omega) (num_lits (xs:=[1,2,0,3,8]) (heap_alloc_new _ _) rfl)).mono ?_
   rintro e w5 ⟨p3,rfl,_,hr,hg⟩
   have D5:=(D.alloc _).grown hr hg
   clear D hr hg
   have z5:=D5.hb
   have HD5:=Lib.hid D5
   obtain ⟨hi,hz0,hz1,hz2⟩:=HI.out
   have HH:=Lib.hid hi
   clear hi D5
   go_wp2_with (at_builtin; refine wpList_append_own_at _ rfl _ _ 23 rfl w.heap.size 3 i0 (.int .i64 0) 1 8 Tryd.underlying23 HH.out hz0 hz1 hz2 rfl (by decide) _ _ _ rfl ((HD5.out.alloc _).own) ⟨w5.heap.size,0,none⟩ 1 1 [.int .i64 p3] rfl rfl (cell_one_new _ _ _) (by simp [Value.oneCell']) (by unfold maxLen; omega) (by omega) (by simp; omega) ?_; intro v' w6 hown6 hgr _ _)
   have D6:=((HD5.out.alloc _).app hown6 hgr).wide (q':=q + 10 - 2 * (m - 1)) (by omega)
   have HD6:=Lib.hid D6
   clear D6 hown6 hgr hz0 hz1 hz2
   go_wp2
   go_roundw
   case rel => exact ⟨m - 1,k + 1,xs ++ [p3],int_pred hlt,by omega,by simp [HX.out],by simpa [ints] using HD6.out⟩
   case measure => simp [intOf]; omega
  ·have em : m = 0:=by omega
   subst em
   have HDD:=Lib.hid D
   clear D hlt
   go_wp2_with fail
   refine (pick_any g _ n c A _ _ HDD.out.rd (by omega) (by omega) (by omega)).mono ?_
   rintro e w3 ⟨p1,rfl,⟨p10,p11⟩,hr,hg⟩
   have D3:=HDD.out.grown hr hg
   clear hr hg
   have z3:=D3.hb
   obtain ⟨hi,hz0,hz1,hz2⟩:=HI.out
   have HH:=Lib.hid hi
   clear hi
   have HD3:=Lib.hid D3
   by_cases e0 : p1 = 0
   ·subst e0
    clear D3 p10 p11 hz0 hz1 hz2
    go_wp2
    go_ret
    exact gotInts_of (xs:=[]) ((HD3.out.alloc _).fresh (World.ownsRow_made w3 #[] 0 (by have:=HD3.out.hb; omega) (Nat.zero_le _) (by simp))) (by omega) (by omega)
   by_cases e1 : p1 = 1
   ·subst e1
    clear e0 p10 p11
    go_wp2_with fail
    refine (num_any g _ n c _ 0 3 3 A _ (D3.alloc _).rd (by omega) (by omega) (by omega) (by simp) (by omega) (num_lits (xs:=[9,-1,9223372036854775807]) (heap_alloc_new _ _) rfl)).mono ?_
    rintro e w5 ⟨p3,rfl,_,hr,hg⟩
    have D5:=(D3.alloc _).grown hr hg
    clear hr hg D3
    have z5:=D5.hb
    have HD5:=Lib.hid D5
    clear D5
    go_wp2_with (at_builtin; refine wpList_append_own_at _ rfl _ _ 23 rfl w.heap.size 3 i0 (.int .i64 0) 1 8 Tryd.underlying23 HH.out hz0 hz1 hz2 rfl (by decide) _ _ _ rfl ((HD5.out.alloc _).own) ⟨w5.heap.size,0,none⟩ 1 1 [.int .i64 p3] rfl rfl (cell_one_new _ _ _) (by simp [Value.oneCell']) (by unfold maxLen; omega) (by omega) (by simp; omega) ?_; intro v' w6 hown6 hgr _ _; have HO6:=Lib.hid (And.intro hown6 hgr); clear hown6 hgr)
    go_ret
    exact gotInts_of (xs:=xs ++ [p3]) ((HD5.out.alloc _).app (by simpa [ints] using HO6.out.1) HO6.out.2) (by omega) (by omega)
   by_cases e2 : p1 = 2
   ·subst e2
    clear e0 e1 p10 p11 D3
    go_wp2_with (at_builtin; go_loud (refine wpList_append_own_at _ rfl _ _ 23 rfl w.heap.size 3 i0 (.int .i64 0) 1 8 Tryd.underlying23 HH.out hz0 hz1 hz2 rfl (by decide) _ _ _ rfl ((HD3.out.alloc _).own) ⟨w3.heap.size,0,none⟩ 6 6 [.int .i64 1,.int .i64 1,.int .i64 1,.int .i64 1,.int .i64 1,.int .i64 1] rfl rfl (by exact World.news_of_block (cs:=#[.int .i64 1,.int .i64 1,.int .i64 1,.int .i64 1,.int .i64 1,.int .i64 1]) (heap_alloc_new _ _)) (by simp [Value.oneCell']) (by unfold maxLen; omega) (by omega) (by simp; omega) ?_; intro v' w6 hown6 hgr _ _; have HO6:=Lib.hid (And.intro hown6 hgr); clear hown6 hgr))
    go_ret
    exact gotInts_of (xs:=xs ++ [1,1,1,1,1,1]) ((HD3.out.alloc _).app (by simpa [ints] using HO6.out.1) HO6.out.2) (by omega) (by omega)
   ·clear D3 hz0 hz1 hz2
    go_wp2
    go_ret
    exact gotInts_of (xs:=xs) HD3.out (by omega) (by omega)
end Go.Proofs.YtkfafknliihabaaDoor
namespace Go.Proofs.YtkfafknliihabaaDoor
open Go.RowKit
structure OneSt (w0 : World) (g : Nat) (A : Option Addr) (n c q b : Nat) (s : ByteArray) (x y : Int) (W : World) : Prop where
 rd : Rd W g A n c q
 gr : w0.grownBy W (some g)
 hg : g < w0.heap.size
 res : W.heap[w0.heap.size]? = some (.cells #[.string ⟨#[]⟩,.int .i64 0,.int .i64 0] 34)
 blk : W.heap[b]? = some (.cells #[.string s,.int .i64 x,.int .i64 y] 34)
 lo : w0.heap.size < b
section
variable {w0 : World} {g : Nat} {A : Option Addr} {n c q b : Nat} {s : ByteArray} {x y : Int} {W W' : World}
theorem OneSt.alloc (h : OneSt w0 g A n c q b s x y W) (o : Obj) : OneSt w0 g A n c q b s x y (W.alloc o):=⟨h.rd.alloc o,gb_al h.gr o,h.hg,blk_alloc h.res o,blk_alloc h.blk o,h.lo⟩
theorem OneSt.grown {q' : Nat} (h : OneSt w0 g A n c q b s x y W) (hr : Rd W' g A n c q') (hg : W.grownBy W' (some g)) : OneSt w0 g A n c q' b s x y W':=
 ⟨hr,gb_trans h.gr hg,h.hg,(blk_grown hg h.res (by have:=h.hg; omega)).1,(blk_grown hg h.blk (by have:=h.hg; have:=h.lo; omega)).1,h.lo⟩
theorem OneSt.wide {q' : Nat} (h : OneSt w0 g A n c q b s x y W) (hq : q <= q') : OneSt w0 g A n c q' b s x y W:=⟨h.rd.mono hq,h.gr,h.hg,h.res,h.blk,h.lo⟩
theorem OneSt.set {i : Nat} {v : Value} {s' : ByteArray} {x' y' : Int} (h : OneSt w0 g A n c q b s x y W) (e : (#[Value.string s,.int .i64 x,.int .i64 y] : Array Value).setIfInBounds i v = #[.string s',.int .i64 x',.int .i64 y']) : OneSt w0 g A n c q b s' x' y' (W.setCell ⟨b,i,none⟩ v):=
 ⟨h.rd.setCell (by have:=h.hg; have:=h.lo; simp; omega) v,gb_set h.gr (by have:=h.lo; simp; omega) v,h.hg,(Below.heap_setCell W ⟨b,i,none⟩ v _ (by have:=h.lo; simp; omega)).trans h.res,by rw [blk_setCell h.blk,e],h.lo⟩
theorem OneSt.setS {v : ByteArray} (h : OneSt w0 g A n c q b s x y W) : OneSt w0 g A n c q b v x y (W.setCell ⟨b,0,none⟩ (.string v)):=h.set rfl
theorem OneSt.setX {v : Int} (h : OneSt w0 g A n c q b s x y W) : OneSt w0 g A n c q b s v y (W.setCell ⟨b,1,none⟩ (.int .i64 v)):=h.set rfl
theorem OneSt.setY {v : Int} (h : OneSt w0 g A n c q b s x y W) : OneSt w0 g A n c q b s x v (W.setCell ⟨b,2,none⟩ (.int .i64 v)):=h.set rfl
theorem OneSt.zb (h : OneSt w0 g A n c q b s x y W) : b < W.heap.size:=blk_lt h.blk
end
def GotD (w : World) (g : Nat) (A : Option Addr) (n c q : Nat) (e : Ending) (w' : World) : Prop:=
 ∃ (s : ByteArray) (x y : Int),e = .returned (.agg #[.string s,.int .i64 x,.int .i64 y]) /\ Rd w' g A n c q /\ w.grownBy w' (some g)
theorem gotD_of {w0 : World} {g : Nat} {A : Option Addr} {n c q q' b : Nat} {s : ByteArray} {x y : Int} {W : World} (h : OneSt w0 g A n c q b s x y W) (hq : q <= q') (v1 v2 v3 : Value) :
  Rd (((W.setCell ⟨w0.heap.size,0,none⟩ v1).setCell ⟨w0.heap.size,1,none⟩ v2).setCell ⟨w0.heap.size,2,none⟩ v3) g A n c q' /\ w0.grownBy (((W.setCell ⟨w0.heap.size,0,none⟩ v1).setCell ⟨w0.heap.size,1,none⟩ v2).setCell ⟨w0.heap.size,2,none⟩ v3) (some g):=by
 have hg:=h.hg
 exact ⟨(((h.rd.setCell (by simpa using hg) v1).setCell (by simpa using hg) v2).setCell (by simpa using hg) v3).mono hq,gb_set (gb_set (gb_set h.gr (by simp) v1) (by simp) v2) (by simp) v3⟩
set_option maxRecDepth 20000 in
set_option maxHeartbeats 4000000 in
theorem l1One_any (g q n c : Nat) (A : Option Addr) (lines : Int) (w : World) (h : Rd w g A n c q) (hq : q < 900000000) (hl0 : 0 <= lines) (hl1 : lines <= 1000) :
  Calls Tryd.prog 98 #[.pointer (some ⟨g,0,none⟩),.int .i64 lines] w (GotD w g A n c (q + 10)):=by
 have hgl:=h.gblt
 go_enter Tryd.func98, Tryd.ntmps98
 go_upto_region 1 with fail
 go_cut [5] from 6 to 14 (λ v wx => ∃ (b : Nat) (s : ByteArray) (x : Int),v = .pointer (some ⟨b,0,none⟩) /\ OneSt w g A n c (q + 2) b s x 0 wx)
 case first =>
  go_wp2_with (first
   | (go_at_call 99; refine (of_any g q n c _ 0 6 6 A _ ((h.alloc _).alloc _) (by omega) (by omega) (by omega) (by simp) (by omega) (of_lits (xs:=[⟨#[112,117,116]⟩,⟨#[112,117,116]⟩,⟨#[116,97,107,101]⟩,⟨#[116,97,107,101]⟩,⟨#[101,110,100]⟩,⟨#[108,111,111,107]⟩]) (heap_new' _ _ (by simp)) rfl)).mono ?_; rintro e w1 ⟨s,rfl,hr,hg⟩; have g1:=gb_trans (gb_al (gb_al (World.grownBy.refl w (some g)) _) _) hg; have k1:=(blk_grown hg (blk_alloc (heap_alloc_new w _) _) (by omega)).1; have z1:=blk_lt k1; have HK1:=Lib.hid (And.intro g1 k1); clear h hg g1 k1)
   | (go_at_call 44; refine (pick_any g _ n c A _ _ hr (by omega) (by omega) (by omega)).mono ?_; rintro e w2 ⟨r,rfl,⟨r0,r1⟩,hr2,hg2⟩; have g2:=gb_trans HK1.out.1 hg2; have k2:=(blk_grown hg2 HK1.out.2 (by omega)).1; have z2:=blk_lt k2; have HK2:=Lib.hid (And.intro g2 (And.intro k2 hr2)); clear hg2 g2 k2 hr2))
  all_goals
   go_meet
   exact ⟨w2.heap.size,s,_,rfl,HK2.out.2.2.alloc _,gb_al HK2.out.1 _,hgl,blk_alloc HK2.out.2.1 _,heap_alloc_new _ _,z2⟩
 case rest =>
  obtain ⟨b,s,x,rfl,D⟩:=hcut
  clear h
  have ec:=blk_cell D.blk
  have zb:=D.zb
  go_upto_if 17 with (go_at_call 106; refine (spec_l1Words s _).mono ?_; rintro e w1 ⟨rfl,rfl⟩)
  go_cut [] from 17 to 23 (λ wx => ∃ y : Int,OneSt w g A n c (q + 4) b s x y wx)
  case first =>
   have HD:=Lib.hid D
   clear D
   cases t : (s.toList == putA)
   ·go_wp2
    go_meet
    exact ⟨0,HD.out.wide (by omega)⟩
   ·go_wp2_with (first
     | (go_at_call 44; refine (pick_any g _ n c A _ _ HD.out.rd (by omega) (by omega) (by omega)).mono ?_; rintro e w2 ⟨r,rfl,⟨r0,r1⟩,hr2,hg2⟩; have HD2:=Lib.hid (HD.out.grown hr2 hg2); have zb2:=HD2.out.zb; have zl2:=HD2.out.lo; clear hr2 hg2)
     | (go_at_call 45; refine (num_any g _ n c _ 0 3 3 A _ (HD2.out.alloc _).rd (by omega) (by omega) (by omega) (by simp) (by omega) (num_lits (xs:=[r,0,1000]) (heap_alloc_new _ _) rfl)).mono ?_; rintro e w3 ⟨p3,rfl,_,hr3,hg3⟩; have HD3:=Lib.hid ((HD2.out.alloc _).grown hr3 hg3); have ec3:=blk_cell HD3.out.blk; have fc3:=blk_frozen HD3.out.blk; have zb3:=HD3.out.zb; clear hr3 hg3))
    go_meet
    exact ⟨p3,HD3.out.setY.wide (by omega)⟩
  case rest =>
   obtain ⟨y,D⟩:=hcut
   go_upto_region 4 with fail
   go_cut [31] from 24 to 30 (λ v wx => ∃ t : Bool,v = .bool t /\ OneSt w g A n c (q + 5) b s x y wx)
   case first =>
    have ec:=blk_cell D.blk
    have zb:=D.zb
    have HD:=Lib.hid D
    clear D
    cases t : (s.toList == endA)
    ·have t' : (s.toList == [101,110,100]) = false:=t
     clear t
     go_wp2
     go_meet
     exact ⟨_,rfl,HD.out.wide (by omega)⟩
    ·have t' : (s.toList == [101,110,100]) = true:=t
     clear t
     go_wp2_with (go_at_call 44; refine (pick_any g _ n c A _ _ HD.out.rd (by omega) (by omega) (by omega)).mono ?_; rintro e w2 ⟨r,rfl,⟨r0,r1⟩,hr2,hg2⟩; have HD2:=Lib.hid (HD.out.grown hr2 hg2); clear hr2 hg2)
     all_goals
      go_meet
      exact ⟨_,rfl,HD2.out.wide (by omega)⟩
   case rest =>
   obtain ⟨t,rfl,D⟩:=hcut
   go_upto_if 31 with fail
   go_cut [] from 31 to 32 (λ wx => ∃ s' : ByteArray,OneSt w g A n c (q + 5) b s' x y wx)
   case first =>
    have ec:=blk_cell D.blk
    have fc:=blk_frozen D.blk
    have zb:=D.zb
    have HD:=Lib.hid D
    clear D
    cases t
    ·go_wp2
     go_meet
     exact ⟨s,HD.out⟩
    ·go_wp2
     go_meet
     exact ⟨_,HD.out.setS⟩
   case rest =>
    obtain ⟨s',D⟩:=hcut
    go_wp2_with fail
    refine (pick_any g (q + 5) n c A _ _ D.rd (by omega) (by omega) (by omega)).mono ?_
    rintro e w2 ⟨r,rfl,⟨r0,r1⟩,hr2,hg2⟩
    have D2:=D.grown hr2 hg2
    have ec:=blk_cell D2.blk
    have fc:=blk_frozen D2.blk
    have er:=blk_cell D2.res
    have fr:=blk_frozen D2.res
    have zb:=D2.zb
    have zr:=blk_lt D2.res
    have zlo:=D2.lo
    have HD:=Lib.hid D2
    clear D D2 hr2 hg2
    have hne : ¬ b = w.heap.size:=by omega
    have hne2 : ¬ w.heap.size = b:=by omega
    by_cases e0 : r = 0
    ·subst e0
     go_wp2
     refine bodyPost_ret (v:=.agg #[.string s',.int .i64 0,.int .i64 y]) ?_ rfl ⟨_,_,_,rfl,?_⟩
     ·simp [results,Tryd.results98,go_sem,er]
     ·exact gotD_of HD.out.setX (by omega) _ _ _
    by_cases e1 : r = 1
    ·subst e1
     go_wp2
     refine bodyPost_ret (v:=.agg #[.string s',.int .i64 0,.int .i64 y]) ?_ rfl ⟨_,_,_,rfl,?_⟩
     ·simp [results,Tryd.results98,go_sem,er]
     ·exact gotD_of HD.out.setX (by omega) _ _ _
    by_cases e2 : r = 2
    ·subst e2
     clear ec fc er fr
     go_wp2_with fail
     refine (num_any g (q + 6) n c _ 0 3 3 A _ (HD.out.alloc _).rd (by omega) (by omega) (by omega) (by simp) (by omega) (num_lits (xs:=[-1,7,9223372036854775807]) (heap_alloc_new _ _) rfl)).mono ?_
     rintro e w3 ⟨p3,rfl,_,hr3,hg3⟩
     have HD3:=Lib.hid ((HD.out.alloc _).grown hr3 hg3)
     have ec:=blk_cell HD3.out.blk
     have fc:=blk_frozen HD3.out.blk
     have er:=blk_cell HD3.out.res
     have fr:=blk_frozen HD3.out.res
     have zb3:=HD3.out.zb
     have zr3:=blk_lt HD3.out.res
     clear hr3 hg3
     go_wp2
     refine bodyPost_ret (v:=.agg #[.string s',.int .i64 p3,.int .i64 y]) ?_ rfl ⟨_,_,_,rfl,?_⟩
     ·simp [results,Tryd.results98,go_sem,er]
     ·exact gotD_of HD3.out.setX (by omega) _ _ _
    by_cases e3 : r = 3
    ·subst e3
     clear ec fc er fr
     go_wp2_with fail
     refine (num_any g (q + 6) n c _ 0 3 3 A _ (HD.out.alloc _).rd (by omega) (by omega) (by omega) (by simp) (by omega) (num_lits (xs:=[1001,-1,5]) (heap_alloc_new _ _) rfl)).mono ?_
     rintro e w3 ⟨p3,rfl,_,hr3,hg3⟩
     have HD3:=Lib.hid ((HD.out.alloc _).grown hr3 hg3)
     have ec:=blk_cell HD3.out.blk
     have fc:=blk_frozen HD3.out.blk
     have er:=blk_cell HD3.out.res
     have fr:=blk_frozen HD3.out.res
     have zb3:=HD3.out.zb
     have zr3:=blk_lt HD3.out.res
     clear hr3 hg3
     go_wp2
     refine bodyPost_ret (v:=.agg #[.string s',.int .i64 x,.int .i64 p3]) ?_ rfl ⟨_,_,_,rfl,?_⟩
     ·simp [results,Tryd.results98,go_sem,er]
     ·exact gotD_of HD3.out.setY (by omega) _ _ _
    by_cases e4 : r = 4
    ·subst e4
     clear ec fc er fr
     go_wp2_with fail
     refine (of_any g (q + 6) n c _ 0 3 3 A _ (HD.out.alloc _).rd (by omega) (by omega) (by omega) (by simp) (by omega) (of_lits (xs:=[⟨#[]⟩,⟨#[103,105,118,101]⟩,⟨#[80,85,84]⟩]) (heap_alloc_new _ _) rfl)).mono ?_
     rintro e w3 ⟨p3,rfl,hr3,hg3⟩
     have HD3:=Lib.hid ((HD.out.alloc _).grown hr3 hg3)
     have ec:=blk_cell HD3.out.blk
     have fc:=blk_frozen HD3.out.blk
     have er:=blk_cell HD3.out.res
     have fr:=blk_frozen HD3.out.res
     have zb3:=HD3.out.zb
     have zr3:=blk_lt HD3.out.res
     clear hr3 hg3
     go_wp2
     refine bodyPost_ret (v:=.agg #[.string p3,.int .i64 x,.int .i64 y]) ?_ rfl ⟨_,_,_,rfl,?_⟩
     ·simp [results,Tryd.results98,go_sem,er]
     ·exact gotD_of HD3.out.setS (by omega) _ _ _
    go_wp2
    refine bodyPost_ret (v:=.agg #[.string s',.int .i64 x,.int .i64 y]) ?_ rfl ⟨_,_,_,rfl,?_⟩
    ·simp [results,Tryd.results98,go_sem,er]
    ·exact gotD_of HD.out (by omega) _ _ _
end Go.Proofs.YtkfafknliihabaaDoor
namespace Go.Proofs.YtkfafknliihabaaDoor
open Go.RowKit
structure LSt (w0 : World) (g : Nat) (A : Option Addr) (n c q : Nat) (v : Value) (k : Nat) (xs : List Value) (b : Nat) (s : ByteArray) (x y : Int) (W : World) : Prop where
 st : DSt w0 g A n c q 34 3 v k xs W
 blk : W.heap[b]? = some (.cells #[.string s,.int .i64 x,.int .i64 y] 34)
 lt : ∀ b',v.ownBlock = some b' -> b' < b
 lo : w0.heap.size <= b
section
variable {w0 : World} {g : Nat} {A : Option Addr} {n c q : Nat} {v : Value} {k : Nat} {xs : List Value} {b : Nat} {s : ByteArray} {x y : Int} {W W' : World}
theorem LSt.below (h : LSt w0 g A n c q v k xs b s x y W) (hb : Below W.heap.size W W') : LSt w0 g A n c q v k xs b s x y W':=⟨h.st.below hb,(blk_below hb h.blk).1,h.lt,h.lo⟩
theorem LSt.grown {q' : Nat} (h : LSt w0 g A n c q v k xs b s x y W) (hr : Rd W' g A n c q') (hg : W.grownBy W' (some g)) : LSt w0 g A n c q' v k xs b s x y W':=
 ⟨h.st.grown hr hg,(blk_grown hg h.blk (by have:=h.st.hg; have:=h.lo; omega)).1,h.lt,h.lo⟩
theorem LSt.wide {q' : Nat} (h : LSt w0 g A n c q v k xs b s x y W) (hq : q <= q') : LSt w0 g A n c q' v k xs b s x y W:=⟨h.st.wide hq,h.blk,h.lt,h.lo⟩
theorem LSt.set {i : Nat} {u : Value} {s' : ByteArray} {x' y' : Int} (h : LSt w0 g A n c q v k xs b s x y W) (e : (#[Value.string s,.int .i64 x,.int .i64 y] : Array Value).setIfInBounds i u = #[.string s',.int .i64 x',.int .i64 y']) : LSt w0 g A n c q v k xs b s' x' y' (W.setCell ⟨b,i,none⟩ u):=
 ⟨h.st.aside (gb_setCell ⟨b,i,none⟩ u) (by
   cases e2 : v.ownBlock with
   | none => exact .inl rfl
   | some b' => right; intro e3; injection e3 with e3; have:=h.lt b' e2; simp at e3; omega) (λ b' e2 => by injection e2 with e2; simp at e2; have:=h.lo; omega),
  by rw [blk_setCell h.blk,e],h.lt,h.lo⟩
theorem LSt.zb (h : LSt w0 g A n c q v k xs b s x y W) : b < W.heap.size:=blk_lt h.blk
theorem LSt.make (h : DSt w0 g A n c q 34 3 v k xs W) (s : ByteArray) (x y : Int) : LSt w0 g A n c q v k xs W.heap.size s x y (W.alloc (.cells #[.string s,.int .i64 x,.int .i64 y] 34)):=
 ⟨h.alloc _,heap_alloc_new _ _,λ b' e => (h.own.lt b' e).2,h.hb⟩
end
theorem deeds_snoc' (ds : List DeedD) (s : ByteArray) (x y : Int) : deeds (ds ++ [⟨s,x,y⟩]) = deeds ds ++ [.string s,.int .i64 x,.int .i64 y]:=by simp [deeds,DeedD.cells]
def GotDeeds (w : World) (g : Nat) (A : Option Addr) (n c q : Nat) (e : Ending) (w' : World) : Prop:=
 ∃ (A' : Option Addr) (n' c' : Nat) (ds : List DeedD),e = .returned (.slice A' n' c') /\ OwnC 34 3 w' w.heap.size w'.heap.size A' n' c' (deeds ds) /\ n' <= 20 /\ Rd w' g A n c q /\ w.grownBy w' (some g)
theorem gotDeeds_of {w : World} {g : Nat} {A : Option Addr} {n c q q' k : Nat} {v : Value} {ds : List DeedD} {W : World} (h : DSt w g A n c q 34 3 v k (deeds ds) W) (hk : k <= 20) (hq : q <= q') : GotDeeds w g A n c q' (.returned v) W:=by
 obtain ⟨A1,c1,rfl,ho⟩:=ownC_of_row h.own (by decide)
 exact ⟨A1,k,c1,ds,rfl,ho,hk,h.rd.mono hq,h.gr⟩
set_option maxRecDepth 20000 in
set_option maxHeartbeats 4000000 in
theorem l1List_any (g q n c : Nat) (A : Option Addr) (lines : Int) (w : World) (h : Rd w g A n c q) (hq : q < 800000000) (hl0 : 0 <= lines) (hl1 : lines <= 1000) :
  Calls Tryd.prog 68 #[.pointer (some ⟨g,0,none⟩),.int .i64 lines] w (GotDeeds w g A n c (q + 200)):=by
 obtain ⟨i0,hi,hz0,hz1,hz2⟩:=info_parts info_deed
 have HI:=Lib.hid (And.intro hi (And.intro hz0 (And.intro hz1 hz2)))
 clear hi hz0 hz1 hz2
 have D1:=DSt.init 34 3 h
 have gb:=D1.hg
 clear h
 go_enter Tryd.func68, Tryd.ntmps68
 go_wp2_with fail
 refine (pick_any g _ n c A _ _ D1.rd (by omega) (by omega) (by omega)).mono ?_
 rintro e w2 ⟨r,rfl,⟨r0,r5⟩,hr,hg⟩
 have D2:=(D1.grown hr hg).wide (q':=q + 190 - 12 * r.toNat) (by omega)
 clear D1 hr hg
 obtain ⟨R,rfl⟩:=Int.eq_ofNat_of_zero_le r0
 have HD2:=Lib.hid D2
 clear D2
 go_wp2
 go_loopw [5,6] (λ v i wr => ∃ (m k : Nat) (ds : List DeedD),i = .int .i64 m /\ m + k <= 13 /\ ds.length = k /\ DSt w g A n c (q + 190 - 12 * m) 34 3 v k (deeds ds) wr) (λ _ i _ => (intOf i).toNat)
 case atStart => exact ⟨R,0,[],rfl,by omega,rfl,HD2.out⟩
 case round =>
  obtain ⟨m,k,ds,rfl,hmk,hxk,D⟩:=hrel
  have HX:=Lib.hid hxk
  clear hxk
  obtain ⟨V,hV⟩ : ∃ V,V = u5:=⟨_,rfl⟩
  by_cases hlt : 0 < m
  ·have z4:=D.hb
   have HD:=Lib.hid D
   clear D
   go_upto_region 6 with (go_at_call 98; refine (l1One_any g (q + 190 - 12 * m) n c A lines _ HD.out.rd (by omega) hl0 hl1).mono ?_; rintro e w3 ⟨s,x,y,rfl,hr,hg⟩; have HD3:=Lib.hid (LSt.make (HD.out.grown hr hg) s x y); have zb3:=HD3.out.zb; have ec:=blk_cell HD3.out.blk; clear hr hg)
   go_cut [26] from 11 to 31 (λ v wx => ∃ t : Bool,v = .bool t /\ LSt w g A n c (q + 190 - 12 * m + 11) u5 k (deeds ds) w3.heap.size s x y wx)
   case first =>
    obtain ⟨t,ht⟩ : ∃ t,t = deedB lines ⟨s,x,y⟩:=⟨_,rfl⟩
    have HT:=Lib.hid ht
    clear ht
    cases t
    ·go_wp2_with (first
      | (go_at_call 89; refine (spec_l1Deed ⟨s,x,y⟩ lines _).mono ?_; rintro e w4 ⟨rfl,b4⟩; rw [<- HT.out]; have HD4:=Lib.hid (HD3.out.below b4); clear b4)
      | (go_at_call 44; refine (pick_any g (q + 190 - 12 * m + 10) n c A _ _ HD4.out.st.rd (by omega) (by omega) (by omega)).mono ?_; rintro e w5 ⟨r2,rfl,⟨r20,r21⟩,hr2,hg2⟩; have HD5:=Lib.hid (HD4.out.grown hr2 hg2); clear hr2 hg2))
     all_goals
      go_meet
      exact ⟨_,rfl,HD5.out⟩
    ·go_wp2_with (go_at_call 89; refine (spec_l1Deed ⟨s,x,y⟩ lines _).mono ?_; rintro e w4 ⟨rfl,b4⟩; rw [<- HT.out]; have HD4:=Lib.hid (HD3.out.below b4); clear b4)
     go_meet
     exact ⟨_,rfl,HD4.out.wide (by omega)⟩
   case rest =>
    obtain ⟨t,rfl,D6⟩:=hcut
    have HD6:=Lib.hid D6
    clear D6
    go_upto_if 26 with fail
    go_cut [] from 11 to 31 (λ wx => ∃ (s' : ByteArray) (x' y' : Int),LSt w g A n c (q + 190 - 12 * m + 11) u5 k (deeds ds) w3.heap.size s' x' y' wx)
    case first =>
     have ec:=blk_cell HD6.out.blk
     have fc:=blk_frozen HD6.out.blk
     have zb:=HD6.out.zb
     cases t
     ·go_wp2
      go_meet
      exact ⟨s,x,y,HD6.out⟩
     ·go_wp2
      go_meet
      exact ⟨_,_,_,((HD6.out.set (i:=0) (u:=.string ⟨#[116,97,107,101]⟩) (s':=⟨#[116,97,107,101]⟩) (x':=x) (y':=y) rfl).set (i:=1) (u:=.int .i64 1) (s':=⟨#[116,97,107,101]⟩) (x':=1) (y':=y) rfl).set (i:=2) (u:=.int .i64 0) (s':=⟨#[116,97,107,101]⟩) (x':=1) (y':=0) rfl⟩
    case rest =>
     obtain ⟨s',x',y',D7⟩:=hcut
     have ec:=blk_cell D7.blk
     have zb:=D7.zb
     have zw:=D7.st.hb
     have HD7:=Lib.hid D7
     obtain ⟨hi,hz0,hz1,hz2⟩:=HI.out
     have HH:=Lib.hid hi
     clear hi D7
     go_wp2_with (at_builtin; refine wpList_append_own_at _ rfl _ _ 24 rfl w.heap.size 34 i0 (.agg #[.string ⟨#[]⟩,.int .i64 0,.int .i64 0]) 3 32 Tryd.underlying24 HH.out hz0 hz1 hz2 rfl (by decide) _ _ _ rfl ((HD7.out.st.alloc _).own) ⟨wc.heap.size,0,none⟩ 1 1 [.string s',.int .i64 x',.int .i64 y'] rfl rfl (World.news_of_block (cs:=#[.string s',.int .i64 x',.int .i64 y']) (heap_alloc_new _ _)) (by simp [Value.oneCell']) (by unfold maxLen; omega) (by omega) (by simp; omega) ?_; intro v' w6 hown6 hgr _ _)
     have D8:=((HD7.out.st.alloc _).app hown6 hgr).wide (q':=q + 190 - 12 * (m - 1)) (by omega)
     have HD8:=Lib.hid D8
     clear D8 hown6 hgr hz0 hz1 hz2
     go_wp2
     go_roundw
     case rel => exact ⟨m - 1,k + 1,ds ++ [⟨s',x',y'⟩],int_pred hlt,by omega,by simp [HX.out],by rw [deeds_snoc']; exact HD8.out⟩
     case measure => simp [intOf]; omega
  ·have em : m = 0:=by omega
   subst em
   have HD:=Lib.hid D
   clear D
   go_wp2
   go_ret
   exact gotDeeds_of HD.out (by omega) (by omega)
end Go.Proofs.YtkfafknliihabaaDoor
namespace Go.Proofs.YtkfafknliihabaaDoor
open Go.RowKit
theorem own_some {E s : Nat} {w : World} {base k : Nat} {v : Value} {xs : List Value} (h : w.ownsRow base E s v k xs) (hk : 0 < k) : ∃ g c,v = .slice (some ⟨g,0,none⟩) k c:=by
 obtain ⟨_,x | ⟨b,cap,cur,e,_⟩⟩:=h
 ·have:=x.2; omega
 ·exact ⟨b,cap,e⟩
set_option maxRecDepth 20000 in
set_option maxHeartbeats 4000000 in
theorem l5Table_any (g q n c : Nat) (A : Option Addr) (lines : Int) (w : World) (h : Rd w g A n c q) (hq : q < 800000000) (hl0 : 0 <= lines) (hl1 : lines <= 1000) :
  Calls Tryd.prog 69 #[.pointer (some ⟨g,0,none⟩),.int .i64 lines] w (GotDeeds w g A n c (q + 60)):=by
 obtain ⟨i0,hi,hz0,hz1,hz2⟩:=info_parts info_deed
 have HI:=Lib.hid (And.intro hi (And.intro hz0 (And.intro hz1 hz2)))
 clear hi hz0 hz1 hz2
 have D1:=DSt.init 34 3 h
 have gb:=D1.hg
 clear h
 go_enter Tryd.func69, Tryd.ntmps69
 go_wp2_with fail
 refine (pick_any g _ n c A _ _ D1.rd (by omega) (by omega) (by omega)).mono ?_
 rintro e w2 ⟨r,rfl,⟨r0,r5⟩,hr,hg⟩
 have D2:=(D1.grown hr hg).wide (q':=q + 30 - 5 * (1 + r.toNat)) (by omega)
 clear D1 hr hg
 obtain ⟨R,rfl⟩:=Int.eq_ofNat_of_zero_le r0
 have HD2:=Lib.hid D2
 clear D2
 go_wp2
 go_loopw [5,6] (λ v i wr => ∃ (m k : Nat) (ds : List DeedD),i = .int .i64 m /\ m + k <= 4 /\ 1 <= m + k /\ ds.length = k /\ DSt w g A n c (q + 30 - 5 * m) 34 3 v k (deeds ds) wr) (λ _ i _ => (intOf i).toNat)
 case atStart => exact ⟨1 + R,0,[],by first | rfl | (congr 1; omega),by omega,by omega,rfl,HD2.out⟩
 case round =>
  obtain ⟨m,k,ds,rfl,hmk,hmk1,hxk,D⟩:=hrel
  have HX:=Lib.hid hxk
  clear hxk
  obtain ⟨V,hV⟩ : ∃ V,V = u5:=⟨_,rfl⟩
  by_cases hlt : 0 < m
  ·have z4:=D.hb
   have HD:=Lib.hid D
   clear D
   go_upto_region 6 with (first
    | (go_at_call 99; refine (of_any g _ n c _ 0 3 3 A _ (HD.out.alloc _).rd (by omega) (by omega) (by omega) (by simp) (by omega) (of_lits (xs:=[⟨#[116,97,107,101]⟩,⟨#[116,97,107,101]⟩,⟨#[112,117,116]⟩]) (heap_alloc_new _ _) rfl)).mono ?_; rintro e w3 ⟨s,rfl,hr,hg⟩; have HD3:=Lib.hid ((HD.out.alloc _).grown hr hg); clear hr hg)
    | (go_at_call 44; refine (pick_any g _ n c A _ _ HD3.out.rd (by omega) (by omega) (by omega)).mono ?_; rintro e w4 ⟨r2,rfl,⟨r20,r21⟩,hr2,hg2⟩; have HD4:=Lib.hid (HD3.out.grown hr2 hg2); clear hr2 hg2))
   have HL4:=Lib.hid (LSt.make HD4.out s (1 + r2) 0)
   have ec:=blk_cell HL4.out.blk
   have fc:=blk_frozen HL4.out.blk
   have zb:=HL4.out.zb
   go_upto_if 27 with fail
   go_cut [] from 27 to 30 (λ wx => ∃ y : Int,LSt w g A n c (q + 30 - 5 * m + 3) u5 k (deeds ds) w4.heap.size s (1 + r2) y wx)
   case first =>
    cases t : (s.toList == [112,117,116])
    ·clear t
     go_wp2
     go_meet
     exact ⟨0,HL4.out.wide (by omega)⟩
    ·clear t
     go_wp2_with (go_at_call 44; refine (pick_any g _ n c A _ _ HL4.out.st.rd (by omega) (by omega) (by omega)).mono ?_; rintro e w5 ⟨r3,rfl,⟨r30,r31⟩,hr3,hg3⟩; have HL5:=Lib.hid (HL4.out.grown hr3 hg3); have ec5:=blk_cell HL5.out.blk; have fc5:=blk_frozen HL5.out.blk; have zb5:=HL5.out.zb; clear hr3 hg3)
     go_meet
     exact ⟨_,(HL5.out.set (i:=2) (u:=.int .i64 r3) (s':=s) (x':=1 + r2) (y':=r3) rfl).wide (by omega)⟩
   case rest =>
    obtain ⟨y,D5⟩:=hcut
    have HL5:=Lib.hid D5
    clear D5 ec fc zb
    go_upto_if 33 with (go_at_call 44; refine (pick_any g _ n c A _ _ HL5.out.st.rd (by omega) (by omega) (by omega)).mono ?_; rintro e w6 ⟨r4,rfl,⟨r40,r41⟩,hr4,hg4⟩; have HL6:=Lib.hid (HL5.out.grown hr4 hg4); clear hr4 hg4)
    have ec:=blk_cell HL6.out.blk
    have fc:=blk_frozen HL6.out.blk
    have zb:=HL6.out.zb
    go_cut [] from 33 to 34 (λ wx => ∃ x : Int,LSt w g A n c (q + 30 - 5 * m + 4) u5 k (deeds ds) w4.heap.size s x y wx)
    case first =>
     by_cases e4 : r4 = 0
     ·subst e4
      go_wp2
      go_meet
      exact ⟨_,(HL6.out.set (i:=1) (u:=.int .i64 0) (s':=s) (x':=0) (y':=y) rfl).wide (by omega)⟩
     ·have e4' : (r4 == 0) = false:=by simpa using e4
      go_wp2
      go_meet
      exact ⟨_,HL6.out.wide (by omega)⟩
    case rest =>
     obtain ⟨x,D7⟩:=hcut
     clear ec fc zb
     have ec:=blk_cell D7.blk
     have zb:=D7.zb
     have zw:=D7.st.hb
     have HD7:=Lib.hid D7
     obtain ⟨hi,hz0,hz1,hz2⟩:=HI.out
     have HH:=Lib.hid hi
     clear hi D7
     go_wp2_with (at_builtin; refine wpList_append_own_at _ rfl _ _ 24 rfl w.heap.size 34 i0 (.agg #[.string ⟨#[]⟩,.int .i64 0,.int .i64 0]) 3 32 Tryd.underlying24 HH.out hz0 hz1 hz2 rfl (by decide) _ _ _ rfl ((HD7.out.st.alloc _).own) ⟨wc.heap.size,0,none⟩ 1 1 [.string s,.int .i64 x,.int .i64 y] rfl rfl (World.news_of_block (cs:=#[.string s,.int .i64 x,.int .i64 y]) (heap_alloc_new _ _)) (by simp [Value.oneCell']) (by unfold maxLen; omega) (by omega) (by simp; omega) ?_; intro v' w6 hown6 hgr _ _; have HO6:=Lib.hid (And.intro hown6 hgr); clear hown6 hgr)
     have D8:=((HD7.out.st.alloc _).app HO6.out.1 HO6.out.2).wide (q':=q + 30 - 5 * (m - 1)) (by omega)
     have HD8:=Lib.hid D8
     clear D8 hz0 hz1 hz2
     go_wp2
     go_roundw
     case rel => exact ⟨m - 1,k + 1,ds ++ [⟨s,x,y⟩],int_pred hlt,by omega,by omega,by simp [HX.out],by rw [deeds_snoc']; exact HD8.out⟩
     case measure => simp [intOf]; omega
  ·have em : m = 0:=by omega
   subst em
   have HDD:=Lib.hid D
   clear D hlt
   go_wp2_with fail
   refine (pick_any g _ n c A _ _ HDD.out.rd (by omega) (by omega) (by omega)).mono ?_
   rintro e w3 ⟨p1,rfl,⟨p10,p11⟩,hr,hg⟩
   have D3:=HDD.out.grown hr hg
   clear hr hg
   have z3:=D3.hb
   obtain ⟨hi,hz0,hz1,hz2⟩:=HI.out
   have HH:=Lib.hid hi
   clear hi
   have HD3:=Lib.hid D3
   by_cases e0 : p1 = 0
   ·subst e0
    clear D3 p10 p11 hz0 hz1 hz2
    go_wp2
    go_ret
    exact gotDeeds_of (ds:=[]) ((HD3.out.alloc _).fresh (World.ownsRow_made w3 #[] 0 (by have:=HD3.out.hb; omega) (Nat.zero_le _) (by simp))) (by omega) (by omega)
   by_cases e1 : p1 = 1
   ·subst e1
    clear e0 p10 p11 D3
    go_wp2_with (first
     | (go_at_call 99; refine (of_any g _ n c _ 0 3 3 A _ (HD3.out.alloc _).rd (by omega) (by omega) (by omega) (by simp) (by omega) (of_lits (xs:=[⟨#[101,110,100]⟩,⟨#[108,111,111,107]⟩,⟨#[116,97,107,101]⟩]) (heap_alloc_new _ _) rfl)).mono ?_; rintro e w5 ⟨s,rfl,hr,hg⟩; have HD5:=Lib.hid ((HD3.out.alloc _).grown hr hg); have z5:=HD5.out.hb; clear hr hg)
     | (go_at_call 45; refine (num_any g _ n c _ 0 3 3 A _ (HD5.out.alloc _).rd (by omega) (by omega) (by omega) (by simp) (by omega) (num_lits (xs:=[1,7,-1]) (heap_alloc_new _ _) rfl)).mono ?_; rintro e w7 ⟨p3,rfl,_,hr,hg⟩; have HD7:=Lib.hid ((HD5.out.alloc _).grown hr hg); have z7:=HD7.out.hb; clear hr hg)
     | (at_builtin; refine wpList_append_own_at _ rfl _ _ 24 rfl w.heap.size 34 i0 (.agg #[.string ⟨#[]⟩,.int .i64 0,.int .i64 0]) 3 32 Tryd.underlying24 HH.out hz0 hz1 hz2 rfl (by decide) _ _ _ rfl ((HD7.out.alloc _).own) ⟨w7.heap.size,0,none⟩ 1 1 [.string s,.int .i64 p3,.int .i64 0] rfl rfl (World.news_of_block (cs:=#[.string s,.int .i64 p3,.int .i64 0]) (heap_alloc_new _ _)) (by simp [Value.oneCell']) (by unfold maxLen; omega) (by omega) (by simp; omega) ?_; intro v' w6 hown6 hgr _ _; have HO6:=Lib.hid (And.intro hown6 hgr); clear hown6 hgr))
    go_ret
    exact gotDeeds_of (ds:=ds ++ [⟨s,p3,0⟩]) ((HD7.out.alloc _).app (by rw [deeds_snoc']; exact HO6.out.1) HO6.out.2) (by omega) (by omega)
   by_cases e2 : p1 = 2
   ·subst e2
    clear e0 e1 p10 p11 D3
    obtain ⟨b1,c1,hv1⟩:=own_some HD3.out.own (by omega)
    have HV:=Lib.hid hv1
    subst hv1
    have hk0 : 1 <= k:=by omega
    have hk4 : k <= 4:=by omega
    go_wp2_with fail
    go_loopw [5] (λ v wr => ∃ (gb k cb : Nat) (ds : List DeedD),v = .slice (some ⟨gb,0,none⟩) k cb /\ 1 <= k /\ k <= 9 /\ ds.length = k /\ DSt w g A n c (q + 40) 34 3 v k (deeds ds) wr) (λ v _ => match v with | .slice _ n _ => 9 - n | _ => 0)
    case atStart => exact ⟨b1,k,c1,ds,rfl,hk0,by omega,HX.out,HD3.out.wide (by omega)⟩
    case round =>
     clear HV HX HD3 hk0 hk4
     obtain ⟨gb,k,cb,ds,rfl,hk1,hk9,hxk,D⟩:=hrel
     by_cases hlt : k < 9
     ·obtain ⟨d,hd⟩ : ∃ d,ds[0]? = some d:=⟨_,List.getElem?_eq_getElem (by omega)⟩
      obtain ⟨g0,g1,g2⟩:=deeds_get hd
      have ec0:=row_cells D.own g0
      have ec1:=row_cells D.own g1
      have ec2:=row_cells D.own g2
      simp only [Nat.zero_mul,Nat.zero_add] at ec0 ec1 ec2
      have zb : gb < wr.heap.size:=by obtain ⟨_,cs,h2,_⟩:=row_blk D.own; exact blk_lt h2
      have zw:=D.hb
      have hk1' : (0 : Int) < (k : Int):=by omega
      have hk9' : (k : Int) < 9:=by omega
      have hk1'' : 0 < k:=by omega
      have HX:=Lib.hid hxk
      have HD7:=Lib.hid D
      clear hxk D hd g0 g1 g2
      go_wp2_with (at_builtin; refine wpList_append_own_at _ rfl _ _ 24 rfl w.heap.size 34 i0 (.agg #[.string ⟨#[]⟩,.int .i64 0,.int .i64 0]) 3 32 Tryd.underlying24 HH.out hz0 hz1 hz2 rfl (by decide) _ _ _ rfl ((HD7.out.alloc _).own) ⟨wr.heap.size,0,none⟩ 1 1 [.string d.act,.int .i64 d.a,.int .i64 d.b] rfl rfl (World.news_of_block (cs:=#[.string d.act,.int .i64 d.a,.int .i64 d.b]) (heap_alloc_new _ _)) (by simp [Value.oneCell']) (by unfold maxLen; omega) (by omega) (by simp; omega) ?_; intro v' w6 hown6 hgr _ _; have HO6:=Lib.hid (And.intro hown6 hgr); clear hown6 hgr)
      obtain ⟨gn,cn,hvn⟩:=own_some HO6.out.1 (by omega)
      subst hvn
      have HD8:=Lib.hid ((HD7.out.alloc _).app HO6.out.1 HO6.out.2)
      have HK:=Lib.hid hk9
      clear hz0 hz1 hz2 hk9' hk1' hk1''
      go_wp2
      go_roundw
      case rel => exact ⟨gn,k + 1,cn,ds ++ [d],rfl,by omega,by omega,by simp [HX.out],by rw [deeds_snoc']; exact HD8.out⟩
      case measure => simp; omega
     ·have hk9' : ¬ (k : Int) < 9:=by omega
      have HX:=Lib.hid hxk
      have HD7:=Lib.hid D
      clear hxk D
      go_wp2
      go_ret
      exact gotDeeds_of (ds:=ds) HD7.out (by omega) (by omega)
   ·clear D3 hz0 hz1 hz2
    have e0' : (p1 == 0) = false:=by simpa using e0
    have e1' : (p1 == 1) = false:=by simpa using e1
    have e2' : (p1 == 2) = false:=by simpa using e2
    go_wp2
    go_ret
    exact gotDeeds_of (ds:=ds) HD3.out (by omega) (by omega)
def GotCase (w : World) (g : Nat) (A : Option Addr) (n c q : Nat) (e : Ending) (w' : World) : Prop:=
 ∃ (A1 : Option Addr) (n1 c1 : Nat) (xs : List Int) (A2 : Option Addr) (n2 c2 : Nat) (ds : List DeedD) (A3 : Option Addr) (n3 c3 : Nat) (ts : List DeedD),e = .returned (.tuple #[.slice A1 n1 c1,.slice A2 n2 c2,.slice A3 n3 c3]) /\ OwnC 3 1 w' w.heap.size w'.heap.size A1 n1 c1 (ints xs) /\ OwnC 34 3 w' w.heap.size w'.heap.size A2 n2 c2 (deeds ds) /\ OwnC 34 3 w' w.heap.size w'.heap.size A3 n3 c3 (deeds ts) /\ n1 <= 10 /\ n2 <= 20 /\ n3 <= 20 /\ Rd w' g A n c q /\ w.grownBy w' (some g)
set_option maxHeartbeats 2000000 in
theorem l5Case_any (g q n c : Nat) (A : Option Addr) (w : World) (h : Rd w g A n c q) (hq : q < 700000000) :
  Calls Tryd.prog 43 #[.pointer (some ⟨g,0,none⟩)] w (GotCase w g A n c (q + 280)):=by
 have hgl:=h.gblt
 go_enter Tryd.func43, Tryd.ntmps43
 go_wp2_with fail
 refine (l1Rooms_any g q n c A _ h (by omega)).mono ?_
 rintro e w1 ⟨A1,n1,c1,xs,rfl,o1,hn1,r1,g1⟩
 have s1:=g1.size
 have HO:=Lib.hid (And.intro o1 g1)
 clear h o1 g1
 go_wp2_with fail
 refine (l1List_any g (q + 20) n c A n1 _ r1 (by omega) (by omega) (by omega)).mono ?_
 rintro e w2 ⟨A2,n2,c2,ds,rfl,o2,hn2,r2,g2⟩
 have s2:=g2.size
 have HO2:=Lib.hid (And.intro o2 (And.intro g2 r2))
 clear o2 g2 r2 r1
 go_wp2_with fail
 refine (l5Table_any g (q + 20 + 200) n c A n1 _ HO2.out.2.2 (by omega) (by omega) (by omega)).mono ?_
 rintro e w3 ⟨A3,n3,c3,ts,rfl,o3,hn3,r3,g3⟩
 have s3:=g3.size
 have HO3:=Lib.hid (And.intro o3 (And.intro g3 r3))
 clear o3 g3 r3
 go_wp2
 refine bodyPost_ret (v:=.tuple #[.slice A1 n1 c1,.slice A2 n2 c2,.slice A3 n3 c3]) (by simp [results,Tryd.results43,go_sem]) rfl ?_
 exact ⟨A1,n1,c1,xs,A2,n2,c2,ds,A3,n3,c3,ts,rfl,(((HO.out.1.gb HO2.out.2.1 hgl).gb HO3.out.2.1 hgl)).wide (Nat.le_refl _) (by omega),((HO2.out.1.gb HO3.out.2.1 (by omega))).wide s1 (by omega),HO3.out.1.from (by omega),hn1,hn2,hn3,HO3.out.2.2,gb_trans (gb_trans HO.out.2 HO2.out.2.1) HO3.out.2.1⟩
end Go.Proofs.YtkfafknliihabaaDoor
namespace Go.Proofs.YtkfafknliihabaaDoor
open Go.RowKit
def DrewTurns (w : World) (e : Ending) (w' : World) : Prop:=
 ∃ (A1 : Option Addr) (n1 c1 : Nat) (xs : List Int) (A2 : Option Addr) (n2 c2 : Nat) (ds : List DeedD) (A3 : Option Addr) (n3 c3 : Nat) (ts : List DeedD) (x : Int),e = .returned (.tuple #[.slice A1 n1 c1,.slice A2 n2 c2,.slice A3 n3 c3,.int .i64 x]) /\ OwnC 3 1 w' w.heap.size w'.heap.size A1 n1 c1 (ints xs) /\ OwnC 34 3 w' w.heap.size w'.heap.size A2 n2 c2 (deeds ds) /\ OwnC 34 3 w' w.heap.size w'.heap.size A3 n3 c3 (deeds ts) /\ n1 <= 10 /\ n2 <= 20 /\ n3 <= 20 /\ Below w.heap.size w w'
def GotTurns (w : World) (g : Nat) (e : Ending) (w' : World) : Prop:=
 ∃ (A1 : Option Addr) (n1 c1 : Nat) (xs : List Int) (A2 : Option Addr) (n2 c2 : Nat) (ds : List DeedD) (A3 : Option Addr) (n3 c3 : Nat) (ts : List DeedD) (x : Int),e = .returned (.tuple #[.slice A1 n1 c1,.slice A2 n2 c2,.slice A3 n3 c3,.int .i64 x]) /\ OwnC 3 1 w' w.heap.size w'.heap.size A1 n1 c1 (ints xs) /\ OwnC 34 3 w' w.heap.size w'.heap.size A2 n2 c2 (deeds ds) /\ OwnC 34 3 w' w.heap.size w'.heap.size A3 n3 c3 (deeds ts) /\ n1 <= 10 /\ n2 <= 20 /\ n3 <= 20 /\ w.grownBy w' (some g)
set_option maxHeartbeats 2000000 in
theorem l5Turns_any (g q n c : Nat) (A : Option Addr) (w : World) (h : Rd w g A n c q) (hq : q < 600000000) :
  Calls Tryd.prog 31 #[.pointer (some ⟨g,0,none⟩)] w (GotTurns w g):=by
 have hgl:=h.gblt
 go_enter Tryd.func31, Tryd.ntmps31
 go_wp2_with fail
 refine (l5Case_any g q n c A _ h (by omega)).mono ?_
 rintro e w2 ⟨B1,m1,d1,xs,B2,m2,d2,ds,B3,m3,d3,ts,rfl,o1,o2,o3,h1,h2,h3,r2,g2⟩
 have s2:=g2.size
 have HO:=Lib.hid (And.intro o1 (And.intro o2 (And.intro o3 g2)))
 clear h o1 o2 o3 g2
 go_wp2_with fail
 refine (num_any g _ n c _ 0 8 8 A _ (r2.alloc _) (by omega) (by omega) (by omega) (by simp) (by omega) (num_lits (xs:=[3,5,1,8,0,40,41,-1]) (heap_alloc_new _ _) rfl)).mono ?_
 rintro e w3 ⟨x,rfl,_,hr,hg⟩
 have s3:=hg.size
 have HG:=Lib.hid (gb_trans (gb_al (World.grownBy.refl w2 _) _) hg)
 clear hr hg r2
 go_wp2
 refine bodyPost_ret (v:=.tuple #[.slice B1 m1 d1,.slice B2 m2 d2,.slice B3 m3 d3,.int .i64 x]) (by simp [results,Tryd.results31,go_sem]) rfl ?_
 have s4:=HG.out.size
 exact ⟨B1,m1,d1,xs,B2,m2,d2,ds,B3,m3,d3,ts,x,rfl,(HO.out.1.gb HG.out hgl).wide (Nat.le_refl _) (by omega),(HO.out.2.1.gb HG.out hgl).wide (Nat.le_refl _) (by omega),(HO.out.2.2.1.gb HG.out hgl).wide (Nat.le_refl _) (by omega),h1,h2,h3,gb_trans HO.out.2.2.2 HG.out⟩
set_option maxHeartbeats 2000000 in
theorem DrawServeFirst_any (A : Option Addr) (n c : Nat) (w : World) (h : Code w A n c) : Calls Tryd.prog 8 #[.slice A n c] w (DrewTurns w):=by
 go_enter Tryd.func8, Tryd.ntmps8
 go_wp2_with fail
 refine (open_any _ _ _ _ h).mono ?_
 rintro e w1 ⟨g,A1,n1,c1,rfl,r1,b1,g0⟩
 have HB1:=Lib.hid b1
 have z1:=b1.size
 clear h b1
 go_wp2_with fail
 refine (l5Turns_any g 0 n1 c1 A1 _ r1 (by omega)).mono ?_
 rintro e w2 ⟨B1,m1,d1,xs,B2,m2,d2,ds,B3,m3,d3,ts,x,rfl,o1,o2,o3,h1,h2,h3,g2⟩
 have HO:=Lib.hid (And.intro o1 (And.intro o2 (And.intro o3 g2)))
 clear r1 o1 o2 o3 g2
 go_wp2
 refine bodyPost_ret (v:=.tuple #[.slice B1 m1 d1,.slice B2 m2 d2,.slice B3 m3 d3,.int .i64 x]) (by simp [results,Tryd.results8,go_sem]) rfl ?_
 exact ⟨B1,m1,d1,xs,B2,m2,d2,ds,B3,m3,d3,ts,x,rfl,HO.out.1.wide z1 (Nat.le_refl _),HO.out.2.1.wide z1 (Nat.le_refl _),HO.out.2.2.1.wide z1 (Nat.le_refl _),h1,h2,h3,HB1.out.trans (below_of_gb HO.out.2.2.2 g0 z1)⟩
end Go.Proofs.YtkfafknliihabaaDoor
namespace Go.Proofs.YtkfafknliihabaaDoor
def entD (ts : List DeedD) (p : Nat × List UInt8) : DeedD:=ts.getD p.1 d00
def lastF (ar : Bool) (last : Int) (F : List (Nat × List UInt8)) : Int:=if ar then (match F.getLast? with | some p => (p.1 : Int) | none => last) else last
theorem lastF_nil (ar : Bool) (last : Int) : lastF ar last [] = last:=by cases ar <;> rfl
theorem lastF_cons (ar : Bool) (last : Int) (p : Nat × List UInt8) (F : List (Nat × List UInt8)) : lastF ar last (p :: F) = lastF ar (if ar then (p.1 : Int) else last) F:=by
 cases ar with
 | false => rfl
 | true =>
  unfold lastF
  simp only [if_true]
  rw [List.getLast?_cons]
  cases F.getLast? with
  | none => rfl
  | some q => rfl
theorem runF_snoc (rooms : List Int) (ds : List DeedD) (d : DeedD) : runF rooms (ds ++ [d]) = stepF (runF rooms ds) d:=by
 unfold runF
 rw [List.foldl_append]; rfl
theorem refF_cons {ts : List DeedD} {ar : Bool} {rooms : List Int} {ds : List DeedD} {m : Nat} {last : Int} (h : ¬ nextF (readyUpto ts.length (runF rooms ds).1 ts) last < 0) :
  ∃ p,(p.1 : Int) = nextF (readyUpto ts.length (runF rooms ds).1 ts) last /\ p.2 = (doneF ((runF rooms ds).1.getD (entD ts p).a.toNat l00) (entD ts p)).2 /\
   refF ts ar (m + 1) (runF rooms ds).1 last = p :: refF ts ar m (runF rooms (ds ++ [entD ts p])).1 (if ar then (p.1 : Int) else last):=by
 rw [refF,if_neg h]
 obtain ⟨x,hx⟩:=Int.eq_ofNat_of_zero_le (show 0 <= nextF (readyUpto ts.length (runF rooms ds).1 ts) last by omega)
 rw [hx]
 refine ⟨(x,(doneF ((runF rooms ds).1.getD (ts.getD x d00).a.toNat l00) (ts.getD x d00)).2),rfl,rfl,?_⟩
 rw [runF_snoc]
 simp only [Int.toNat_natCast]
 rfl
theorem refF_at {ts : List DeedD} {ar : Bool} {rooms : List Int} : ∀ (m : Nat) (ds : List DeedD) (last : Int) (F : List (Nat × List UInt8)),F = refF ts ar m (runF rooms ds).1 last -> ∀ (k : Nat) (p : Nat × List UInt8),F[k]? = some p ->
  (p.1 : Int) = nextF (readyUpto ts.length (runF rooms (ds ++ (F.take k).map (entD ts))).1 ts) (lastF ar last (F.take k)) /\
   p.2 = (doneF ((runF rooms (ds ++ (F.take k).map (entD ts))).1.getD (entD ts p).a.toNat l00) (entD ts p)).2:=by
 intro m
 induction m with
 | zero => intro ds last F hF k p hp; subst hF; simp [refF] at hp
 | succ m ih =>
  intro ds last F hF k p hp
  by_cases h : nextF (readyUpto ts.length (runF rooms ds).1 ts) last < 0
  ·rw [refF,if_pos h] at hF; subst hF; simp at hp
  ·obtain ⟨p0,h1,h2,h3⟩:=refF_cons (ar:=ar) (m:=m) h
   rw [h3] at hF
   subst hF
   cases k with
   | zero =>
    simp only [List.getElem?_cons_zero,Option.some.injEq] at hp
    subst hp
    simp only [List.take_zero,List.map_nil,List.append_nil,lastF_nil]
    exact ⟨h1,h2⟩
   | succ k =>
    rw [List.getElem?_cons_succ] at hp
    have:=ih (ds ++ [entD ts p0]) _ _ rfl k p hp
    rw [List.take_succ_cons,List.map_cons,lastF_cons,show ds ++ entD ts p0 :: List.map (entD ts) ((refF ts ar m (runF rooms (ds ++ [entD ts p0])).1 (if ar = true then (p0.1 : Int) else last)).take k) = ds ++ [entD ts p0] ++ List.map (entD ts) ((refF ts ar m (runF rooms (ds ++ [entD ts p0])).1 (if ar = true then (p0.1 : Int) else last)).take k) by simp]
    exact this
theorem refF_end {ts : List DeedD} {ar : Bool} {rooms : List Int} : ∀ (m : Nat) (ds : List DeedD) (last : Int) (F : List (Nat × List UInt8)),F = refF ts ar m (runF rooms ds).1 last -> F.length < m ->
  nextF (readyUpto ts.length (runF rooms (ds ++ F.map (entD ts))).1 ts) (lastF ar last F) < 0:=by
 intro m
 induction m with
 | zero => intro ds last F hF h; omega
 | succ m ih =>
  intro ds last F hF hl
  by_cases h : nextF (readyUpto ts.length (runF rooms ds).1 ts) last < 0
  ·rw [refF,if_pos h] at hF; subst hF
   simpa [lastF_nil] using h
  ·obtain ⟨p0,h1,h2,h3⟩:=refF_cons (ar:=ar) (m:=m) h
   rw [h3] at hF
   subst hF
   simp only [List.length_cons] at hl
   have:=ih (ds ++ [entD ts p0]) (if ar = true then (p0.1 : Int) else last) _ rfl (by omega)
   rw [List.map_cons,lastF_cons,show ds ++ entD ts p0 :: List.map (entD ts) (refF ts ar m (runF rooms (ds ++ [entD ts p0])).1 (if ar = true then (p0.1 : Int) else last)) = ds ++ [entD ts p0] ++ List.map (entD ts) (refF ts ar m (runF rooms (ds ++ [entD ts p0])).1 (if ar = true then (p0.1 : Int) else last)) by simp]
   exact this
theorem nextF_mem {r : List Int} {last : Int} (h : 0 <= nextF r last) : nextF r last ∈ r:=by
 unfold nextF at h ⊢
 cases hf : r.find? (λ x => decide (last < x)) with
 | some x => exact List.mem_of_find?_eq_some hf
 | none =>
  rw [hf] at h
  simp only [Option.getD_none] at h ⊢
  cases r with
  | nil => simp at h
  | cons a r => simp
theorem nextF_neg {r : List Int} {last : Int} (hp : ∀ x ∈ r,0 <= x) (h : nextF r last < 0) : nextF r last = -1:=by
 unfold nextF at h ⊢
 cases hf : r.find? (λ x => decide (last < x)) with
 | some x =>
  rw [hf] at h
  have:=hp x (List.mem_of_find?_eq_some hf)
  simp at h; omega
 | none =>
  rw [hf] at h
  simp only [Option.getD_none] at h ⊢
  cases r with
  | nil => rfl
  | cons a r =>
   have:=hp a (by simp)
   simp at h; omega
theorem upto_mem {n : Nat} {ls : List Ln} {ts : List DeedD} {x : Int} (h : x ∈ readyUpto n ls ts) : ∃ i : Nat,x = i /\ i < n /\ rdyAt ls ts i = true:=by
 rw [upto_eq] at h
 obtain ⟨i,hi,rfl⟩:=List.mem_map.1 h
 obtain ⟨h1,h2⟩:=List.mem_filter.1 hi
 exact ⟨i,rfl,List.mem_range.1 h1,h2⟩
theorem upto_pos {n : Nat} {ls : List Ln} {ts : List DeedD} : ∀ x ∈ readyUpto n ls ts,0 <= x:=λ x h => by
 obtain ⟨i,rfl,_⟩:=upto_mem h
 omega
theorem table_of {ts : List DeedD} {lines : Int} (h : tableB ts lines = true) : (∀ d ∈ ts,deedB lines d = true /\ (d.act.toList == putA || d.act.toList == takeA) = true) /\ 1 <= ts.length /\ ts.length <= 8:=by
 unfold tableB at h
 simp only [Bool.and_eq_true,List.all_eq_true] at h
 obtain ⟨⟨h1,h2⟩,h3⟩:=h
 refine ⟨λ d hd => ?_,?_⟩
 ·have:=h1 d hd
  unfold entB at this
  simp only [Bool.and_eq_true] at this
  exact ⟨this.1.2,this.2⟩
 ·simp [inB] at h3; omega
structure SrvPl (rooms : List Int) (ds ts : List DeedD) (ar : Bool) (m : Nat) (F : List (Nat × List UInt8)) : Prop where
 ok : deedsB rooms ds = true
 tab : tableB ts rooms.length = true
 len : F.length <= m
 ent : ∀ (k : Nat) (p : Nat × List UInt8),F[k]? = some p -> p.1 < ts.length
 ready : ∀ (k : Nat) (p : Nat × List UInt8),F[k]? = some p -> (p.1 : Int) = nextF (readyUpto ts.length (runF rooms (ds ++ (F.take k).map (entD ts))).1 ts) (lastF ar (-1) (F.take k))
 ans : ∀ (k : Nat) (p : Nat × List UInt8),F[k]? = some p -> (runF rooms (ds ++ (F.take (k + 1)).map (entD ts))).2[ds.length + k]? = some p.2
 fin : F.length < m -> nextF (readyUpto ts.length (runF rooms (ds ++ F.map (entD ts))).1 ts) (lastF ar (-1) F) = -1
theorem srvPl {rooms : List Int} {ds ts : List DeedD} {ar : Bool} {tn : Int} (h : okS rooms ds ts tn = true) : SrvPl rooms ds ts ar tn.toNat (serveF ts ar tn.toNat (runF rooms ds).1 0):=by
 unfold okS choiceB at h
 simp only [Bool.and_eq_true,decide_eq_true_eq] at h
 obtain ⟨⟨⟨h1,h2⟩,h3⟩,h4⟩:=h
 obtain ⟨ht,hl,_⟩:=table_of h2
 have hF : serveF ts ar tn.toNat (runF rooms ds).1 0 = refF ts ar tn.toNat (runF rooms ds).1 (-1):=serve_ref (λ d hd => (ht d hd).2) (by omega) _ _ _ 0 (-1) (LsS.refl _) (Nat.zero_le _) rfl
 have hlen:=serveF_len (ts:=ts) (around:=ar) tn.toNat (runF rooms ds).1 0
 generalize serveF ts ar tn.toNat (runF rooms ds).1 0 = F at hF hlen
 have hat:=refF_at _ _ _ F hF
 refine ⟨h1,h2,hlen,λ k p hp => ?_,λ k p hp => (hat k p hp).1,λ k p hp => ?_,λ hm => ?_⟩
 ·have e:=(hat k p hp).1
  obtain ⟨i,hi,hlt,_⟩:=upto_mem (nextF_mem (show 0 <= nextF (readyUpto ts.length (runF rooms (ds ++ (F.take k).map (entD ts))).1 ts) (lastF ar (-1) (F.take k)) by omega))
  omega
 ·obtain ⟨hk,e⟩:=List.getElem?_eq_some_iff.1 hp
  rw [List.take_succ_eq_append_getElem hk,e,List.map_append,<- List.append_assoc]
  show (runF rooms (ds ++ (F.take k).map (entD ts) ++ [entD ts p])).2[ds.length + k]? = some p.2
  rw [runF_snoc,(hat k p hp).2]
  have hl2:=(runF_len rooms (ds ++ (F.take k).map (entD ts))).2
  have hl3 : (ds ++ (F.take k).map (entD ts)).length = ds.length + k:=by simp; omega
  unfold stepF
  simp only
  rw [List.getElem?_append_right (by omega),hl2,hl3]
  simp
  rfl
 ·exact nextF_neg upto_pos (refF_end _ _ _ F hF hm)
theorem SrvPl.deeds {rooms : List Int} {ds ts : List DeedD} {ar : Bool} {m : Nat} {F : List (Nat × List UInt8)} (h : SrvPl rooms ds ts ar m F) {k : Nat} (hk : ds.length + k <= 60) : deedsB rooms (ds ++ (F.take k).map (entD ts)) = true:=by
 have h1:=h.ok
 obtain ⟨ht,_,_⟩:=table_of h.tab
 unfold deedsB at h1 ⊢
 simp only [Bool.and_eq_true,decide_eq_true_eq,List.all_eq_true] at h1 ⊢
 refine ⟨⟨h1.1.1,?_⟩,λ d hd => ?_⟩
 ·simp; omega
 ·rcases List.mem_append.1 hd with hd | hd
  ·exact h1.2 d hd
  ·obtain ⟨p,hp,rfl⟩:=List.mem_map.1 hd
   obtain ⟨j,hj⟩:=List.getElem?_of_mem (List.mem_of_mem_take hp)
   have hlt:=h.ent j p hj
   refine (ht _ ?_).1
   unfold entD
   rw [List.getD_eq_getElem?_getD,List.getElem?_eq_getElem hlt]
   exact List.getElem_mem hlt
end Go.Proofs.YtkfafknliihabaaDoor
namespace Go.Proofs.YtkfafknliihabaaDoor
open Go.RowKit
theorem hb2 {W0 W : World} {a1 a2 : Addr} {v1 v2 : Value} (h : W.cell? a1 = some v1 /\ W.cell? a2 = some v2 /\ Below W0.heap.size W0 W) : Below W0.heap.size W0 W:=h.2.2
section
variable {P : Program} (w : World)
theorem run_apps (t ty : TypeId) (base : Nat) (e : TypeId) (i : TypeInfo) (z : Value) (size bytes : Nat) (ht : P.underlying t = some (.slice e)) (hi : P.info? e = some i) (hz : i.zero = some z)
  (hsize : i.size = size) (hby : i.bytes = bytes) (hzs : z.cells.size = size) (hsz : 0 < size)
  (g0 n c0 : Nat) (xs : List Value) (hown : w.ownsRow base e size (.slice (some ⟨g0,0,none⟩) n c0) n xs)
  (A : Option Addr) (m c lo hi' : Nat) (news : List Value) (hs : Slc w lo hi' size A m c news) (h1 : ∀ u ∈ news,u.oneCell' = true)
  (h63 : n + m <= maxLen) (hbytes : (n + m) * bytes <= 140737488355328) (hbase : base <= w.heap.size) :
  ∃ g cap w',(Builtin.append_ #[t,t] ty #[.slice (some ⟨g0,0,none⟩) n c0,.slice A m c]).run P w = .ok (.slice (some ⟨g,0,none⟩) (n + m) cap) w' /\
   w'.ownsRow base e size (.slice (some ⟨g,0,none⟩) (n + m) cap) (n + m) (xs ++ news) /\ w.grownBy w' (Value.ownBlock (.slice (some ⟨g0,0,none⟩) n c0)) /\ Below base w w':=by
 cases A with
 | none =>
  have hm : m = 0:=by
   rcases Nat.eq_zero_or_pos m with h | h
   ·exact h
   ·obtain ⟨b,off,e,_⟩:=hs.at_ h; cases e
  subst hm
  have hnl : news = []:=by have:=hs.len; simp at this; exact this
  subst hnl
  have hle : n <= c0:=by
   obtain ⟨_,h | ⟨b,cap,cur,e,h1,h2,h3,_⟩⟩:=hown
   ·cases h.1
   ·injection e with _ _ e; omega
  have hr:=run_append_room_src (P:=P) w t t ty e i ht hi g0 0 n c0 (.slice none 0 c) 0 [] (Src.ofNil (P:=P) (e':=e) w ht c) (by omega) (by intro j hj; simp at hj) (by intro j hj; simp at hj)
  refine ⟨g0,c0,w,by simpa [World.setCells] using hr,by simpa using hown,⟨rfl,rfl,rfl,Nat.le_refl _,λ _ _ _ => rfl⟩,Below.refl _ _⟩
 | some ad =>
  by_cases hm : 0 < m
  ·obtain ⟨b,off,e',_,_,_,h4⟩:=hs.at_ hm
   injection e' with e'
   subst e'
   exact run_app w t ty base e i z size bytes ht hi hz hsize hby hzs hsz _ n xs hown (by simp) _ m c news hs.len (λ j u hu => by rw [Addr.add_lit]; exact h4 j u hu) h1 h63 hbytes hbase
  ·obtain rfl : m = 0:=by omega
   have hnl : news = []:=by have:=hs.len; simp at this; exact this
   subst hnl
   exact run_app w t ty base e i z size bytes ht hi hz hsize hby hzs hsz _ n xs hown (by simp) _ 0 c [] (by simp) (λ j u hu => by simp at hu) (λ u hu => by cases hu) h63 hbytes hbase
theorem wp_apps {o : Oper} {a : Act} {K : Act -> World -> Prop} {Q : Exit -> Act -> World -> Prop} (s x : Operand) (t : TypeId)
  (ho : o.op = .call { callee:=.builtin .append,args:=#[s,x],argTypes:=#[t,t] })
  (base : Nat) (e : TypeId) (i : TypeInfo) (z : Value) (size bytes : Nat) (ht : P.underlying t = some (.slice e)) (hi : P.info? e = some i) (hz : i.zero = some z)
  (hsize : i.size = size) (hby : i.bytes = bytes) (hzs : z.cells.size = size) (hsz : 0 < size)
  (g0 n c0 : Nat) (xs : List Value) (hsv : a.eval s = .slice (some ⟨g0,0,none⟩) n c0) (hown : w.ownsRow base e size (.slice (some ⟨g0,0,none⟩) n c0) n xs)
  (A : Option Addr) (m c lo hi' : Nat) (news : List Value) (hx : a.eval x = .slice A m c) (hs : Slc w lo hi' size A m c news) (h1 : ∀ u ∈ news,u.oneCell' = true)
  (h63 : n + m <= maxLen) (hbytes : (n + m) * bytes <= 140737488355328) (hbase : base <= w.heap.size)
  (h : ∀ g cap w',w'.ownsRow base e size (.slice (some ⟨g,0,none⟩) (n + m) cap) (n + m) (xs ++ news) -> w.grownBy w' (Value.ownBlock (.slice (some ⟨g0,0,none⟩) n c0)) -> Below base w w' -> K (a.put o.dst (.slice (some ⟨g,0,none⟩) (n + m) cap)) w') : o.wp P a w K Q:=by
 obtain ⟨g,cap,w',hr,h2,h3,h4⟩:=run_apps (P:=P) w t o.type base e i z size bytes ht hi hz hsize hby hzs hsz g0 n c0 xs hown A m c lo hi' news hs h1 h63 hbytes hbase
 unfold Oper.wp execOp
 simp only [ho,resolve,invoke,builtin,Sem.run_bind,Sem.run_pure,Result.andThen_ok,List.map_toArray,List.map_cons,List.map_nil,hsv,hx,hr]
 exact h g cap w' h2 h3 h4
theorem wpList_apps {ops : Array Oper} {rest : List Oper} {o : Oper} {a : Act} {Q : Exit -> Act -> World -> Prop} (hgd : o.guard = none) (s x : Operand) (t : TypeId)
  (ho : o.op = .call { callee:=.builtin .append,args:=#[s,x],argTypes:=#[t,t] })
  (base : Nat) (e : TypeId) (i : TypeInfo) (z : Value) (size bytes : Nat) (ht : P.underlying t = some (.slice e)) (hi : P.info? e = some i) (hz : i.zero = some z)
  (hsize : i.size = size) (hby : i.bytes = bytes) (hzs : z.cells.size = size) (hsz : 0 < size)
  (g0 n c0 : Nat) (xs : List Value) (hsv : a.eval s = .slice (some ⟨g0,0,none⟩) n c0) (hown : w.ownsRow base e size (.slice (some ⟨g0,0,none⟩) n c0) n xs)
  (A : Option Addr) (m c lo hi' : Nat) (news : List Value) (hx : a.eval x = .slice A m c) (hs : Slc w lo hi' size A m c news) (h1 : ∀ u ∈ news,u.oneCell' = true)
  (h63 : n + m <= maxLen) (hbytes : (n + m) * bytes <= 140737488355328) (hbase : base <= w.heap.size)
  (h : ∀ g cap w',w'.ownsRow base e size (.slice (some ⟨g,0,none⟩) (n + m) cap) (n + m) (xs ++ news) -> w.grownBy w' (Value.ownBlock (.slice (some ⟨g0,0,none⟩) n c0)) -> Below base w w' -> wpList P ops Q rest (a.put o.dst (.slice (some ⟨g,0,none⟩) (n + m) cap)) w') : wpList P ops Q (o :: rest) a w:=
 wpList_plain hgd λ _ hK => wp_apps w s x t ho base e i z size bytes ht hi hz hsize hby hzs hsz g0 n c0 xs hsv hown A m c lo hi' news hx hs h1 h63 hbytes hbase λ g cap w' h2 h3 h4 => hK _ _ (h g cap w' h2 h3 h4)
end
end Go.Proofs.YtkfafknliihabaaDoor
namespace Go.Proofs.YtkfafknliihabaaDoor
open Go.RowKit
theorem svals_at {w : World} {lo hi n c : Nat} {A : Option Addr} {F : List (Nat × List UInt8)} (h : Slc w lo hi 2 A n c (svals F)) {k : Nat} (hk : k < n) :
  ∃ b off p,A = some ⟨b,off,none⟩ /\ b < w.heap.size /\ F[k]? = some p /\ w.cell? ⟨b,off + k * 2,none⟩ = some (.int .i64 p.1) /\ w.cell? ⟨b,off + k * 2 + 1,none⟩ = some (.string ⟨p.2.toArray⟩):=by
 rw [<- srvs_svds] at h
 obtain ⟨b,off,d,e,_,_,h3,hd,e1,e2⟩:=h.srvsAt hk
 unfold svds at hd
 rw [List.getElem?_map] at hd
 cases hF : F[k]? with
 | none => rw [hF] at hd; cases hd
 | some p =>
  rw [hF] at hd
  simp only [Option.map_some,Option.some.injEq] at hd
  subst hd
  exact ⟨b,off,p,e,h3,rfl,e1,e2⟩
theorem svals_len {w : World} {lo hi n c : Nat} {A : Option Addr} {F : List (Nat × List UInt8)} (h : Slc w lo hi 2 A n c (svals F)) : F.length = n:=by
 rw [<- srvs_svds] at h
 have:=h.srvsLen
 rw [svds_len] at this; exact this
theorem deeds_cell (ds : List DeedD) : ∀ u ∈ deeds ds,u.oneCell' = true:=by
 intro u hu
 obtain ⟨d,_,hd⟩:=List.mem_flatMap.1 hu
 simp only [DeedD.cells,List.mem_cons,List.not_mem_nil,or_false] at hd
 rcases hd with rfl | rfl | rfl <;> rfl
end Go.Proofs.YtkfafknliihabaaDoor
namespace Go.Proofs.YtkfafknliihabaaDoor
open Go.RowKit
def okSv (ts : List DeedD) (s : SvD) : Bool:=inB s.i 0 ((ts.length : Int) - 1)
def svDeed (ts : List DeedD) (s : SvD) : DeedD:=ts.getD s.i.toNat d00
def deedsSF (ts : List DeedD) (ss : List SvD) : List DeedD × Bool:=if ss.all (okSv ts) then (ss.map (svDeed ts),true) else ([],false)
theorem okSv_of {ts : List DeedD} {s : SvD} (h1 : 0 <= s.i) (h2 : s.i < (ts.length : Int)) : okSv ts s = true:=by
 unfold okSv inB; simp; omega
theorem okSv_not {ts : List DeedD} {s : SvD} (h : s.i < 0 \/ (ts.length : Int) <= s.i) : okSv ts s = false:=by
 unfold okSv inB; simp; omega
theorem deedsSF_bad {ts : List DeedD} {ss : List SvD} {k : Nat} {s : SvD} (h : ss[k]? = some s) (hb : okSv ts s = false) : deedsSF ts ss = ([],false):=by
 unfold deedsSF
 rw [if_neg]
 rw [List.all_eq_true]
 intro h2
 have:=h2 s (List.mem_of_getElem? h)
 rw [hb] at this; cases this
theorem deedsSF_good {ts : List DeedD} {ss : List SvD} (h : ∀ j s,j < ss.length -> ss[j]? = some s -> okSv ts s = true) : deedsSF ts ss = (ss.map (svDeed ts),true):=by
 unfold deedsSF
 rw [if_pos]
 rw [List.all_eq_true]
 intro s hs
 obtain ⟨j,hj,e⟩:=List.mem_iff_getElem.1 hs
 exact h j s hj (by rw [List.getElem?_eq_getElem hj,e])
theorem okSv_snoc {ts : List DeedD} {ss : List SvD} {k : Nat} {s : SvD} (h : ∀ j s,j < k -> ss[j]? = some s -> okSv ts s = true) (hk : ss[k]? = some s) (hs : okSv ts s = true) : ∀ j s,j < k + 1 -> ss[j]? = some s -> okSv ts s = true:=by
 intro j s' hj e
 by_cases h2 : j = k
 ·subst h2; rw [hk] at e; injection e with e; subst e; exact hs
 ·exact h j s' (by omega) e
theorem deeds_snoc3 (ts : List DeedD) {ss : List SvD} {k : Nat} {s : SvD} (h : ss[k]? = some s) : deeds ((ss.take (k + 1)).map (svDeed ts)) = deeds ((ss.take k).map (svDeed ts)) ++ [.string (svDeed ts s).act,.int .i64 (svDeed ts s).a,.int .i64 (svDeed ts s).b]:=by
 obtain ⟨hk,e⟩:=List.getElem?_eq_some_iff.1 h
 rw [List.take_succ_eq_append_getElem hk,e,List.map_append]
 exact deeds_snoc' _ (svDeed ts s).act (svDeed ts s).a (svDeed ts s).b
theorem make_deeds0 (n : Nat) (hn : n <= 1048576) : ∃ cs : Array Value,cs.size = n * 3 /\ ∀ w : World,(Instr.makeSlice 24 (.int .i64 0) (.int .i64 (n : Int))).run Tryd.prog w = .ok (.slice (some ⟨w.heap.size,0,none⟩) 0 n) (w.alloc (.cells cs 34)):=by
 obtain ⟨i,hi,hz,hs,hb⟩:=info_parts info_deed
 refine ⟨madeCells (Value.cells (.agg #[.string ⟨#[]⟩,.int .i64 0,.int .i64 0])) (n * 3),by rw [size_madeCells],λ w => ?_⟩
 have:=run_make (P:=Tryd.prog) w 24 34 i _ Tryd.underlying24 hi hz .i64 .i64 0 n (by omega) (by omega) (by rw [hb]; omega) (by omega)
 rw [hs] at this
 exact this
theorem row_cap3 {E : Nat} {w : World} {base g c : Nat} {cs : Array Value} (hb : base <= g) (hg : w.heap[g]? = some (.cells cs E)) (hc : cs.size = c * 3) (hm : c <= maxLen) : w.ownsRow base E 3 (.slice (some ⟨g,0,none⟩) 0 c) 0 []:=
 ⟨rfl,.inr ⟨g,c,cs,rfl,hb,hg,Nat.zero_le _,hm,hc,by simp⟩⟩
theorem cell_al {w : World} {v : Value} {b o : Nat} (hb : b < w.heap.size) (h : w.cell? ⟨b,o,none⟩ = some v) (x : Obj) : (w.alloc x).cell? ⟨b,o,none⟩ = some v:=(World.cell?_of_block (Below.heap_alloc _ _ _ hb)).trans h
set_option maxRecDepth 20000 in
set_option maxHeartbeats 8000000 in
theorem impl_DeedsServed (lo hi n c lo2 hi2 m c2 : Nat) (A A2 : Option Addr) (ts : List DeedD) (ss : List SvD) (w : World) (h : Slc w lo hi 3 A n c (deeds ts)) (h2 : Slc w lo2 hi2 2 A2 m c2 (srvs ss)) (hn : n <= 1048576) (hm : m <= 1048576) :
  Calls Tryd.prog 19 #[.slice A n c,.slice A2 m c2] w (NewVB 34 3 w (deeds (deedsSF ts ss).1) (deedsSF ts ss).2):=by
 have hl:=h.deedLen
 have hl2:=h2.srvsLen
 obtain ⟨cs0,hcs0,hmk⟩:=make_deeds0 m hm
 obtain ⟨i0,hi0,hz0,hz1,hz2⟩:=info_parts info_deed
 have HI:=Lib.hid (And.intro hi0 (And.intro hz0 (And.intro hz1 hz2)))
 have HL:=Lib.hid (And.intro hl hl2)
 have HC0:=Lib.hid hcs0
 have H1:=Lib.hid h
 have H2:=Lib.hid h2
 have hmw:=hmk w
 clear hi0 hz0 hz1 hz2 hl hl2 hcs0 hmk h h2
 go_enter Tryd.func19, Tryd.ntmps19
 go_wp2
 go_loopw [6,14] (λ v i wr => ∃ (k g c : Nat),k <= m /\ i = .int .i64 k /\ v = .slice (some ⟨g,0,none⟩) k c /\ (∀ j s,j < k -> ss[j]? = some s -> okSv ts s = true) /\ wr.ownsRow w.heap.size 34 3 (.slice (some ⟨g,0,none⟩) k c) k (deeds ((ss.take k).map (svDeed ts))) /\ Below w.heap.size w wr) (λ _ i _ => m - (intOf i).toNat)
 case atStart => exact ⟨0,w.heap.size,m,Nat.zero_le _,rfl,rfl,λ j s hj => absurd hj (by omega),row_cap3 (Nat.le_refl _) (heap_alloc_new _ _) HC0.out (by unfold maxLen; omega),below_al (Below.refl _ _) _⟩
 case round =>
  obtain ⟨k,g,c',hk,rfl,rfl,hall,ho,B⟩:=hrel
  have HO:=Lib.hid ho
  have HB:=Lib.hid B
  have HA:=Lib.hid hall
  have sB:=B.size
  clear ho B hall
  by_cases hlt : k < m
  ·obtain ⟨b,off,s,hA,_,_,z,hs,e1,e2⟩:=(H2.out.below HB.out).srvsAt hlt
   subst hA
   have HS:=Lib.hid hs
   have i0' : (0 : Int) <= (k : Int):=by omega
   have i1' : (k : Int) < (m : Int):=by omega
   clear hs
   obtain ⟨x,t⟩:=s
   simp only [] at e1 e2
   by_cases x0 : x < 0
   ·have HF:=Lib.hid (deedsSF_bad HS.out (okSv_not (ts:=ts) (.inl x0)))
    go_wp2
    rw [HF.out]
    go_ret2
    exact ⟨none,0,0,rfl,OwnV.empty _ _ _ _,below_al HB.out _⟩
   ·have x0' : 0 <= x:=by omega
    obtain ⟨u,rfl⟩:=Int.eq_ofNat_of_zero_le x0'
    by_cases xn : (n : Int) <= (u : Int)
    ·have HF:=Lib.hid (deedsSF_bad HS.out (okSv_not (ts:=ts) (.inr (by rw [HL.out.1]; exact xn))))
     go_wp2
     rw [HF.out]
     go_ret2
     exact ⟨none,0,0,rfl,OwnV.empty _ _ _ _,below_al HB.out _⟩
    ·have xn' : (u : Int) < (n : Int):=by omega
     have hun : u < n:=by omega
     have HOK:=Lib.hid (okSv_of (ts:=ts) (s:=⟨(u : Int),t⟩) x0' (by rw [HL.out.1]; exact xn'))
     obtain ⟨bt,offt,d,hA3,_,_,zt,hd,t0,t1,t2⟩:=(H1.out.below HB.out).deedAt hun
     subst hA3
     have hdp : d = svDeed ts ⟨(u : Int),t⟩:=by
      unfold svDeed; simp only [Int.toNat_natCast]; rw [List.getD_eq_getElem?_getD,hd]; rfl
     have HDP:=Lib.hid hdp
     have t0':=λ x => cell_al zt t0 x
     have t1':=λ x => cell_al zt t1 x
     have t2':=λ x => cell_al zt t2 x
     obtain ⟨hi0,hz0,hz1,hz2⟩:=HI.out
     have HH:=Lib.hid hi0
     clear hi0 hd hdp t0 t1 t2
     go_wp2_with (at_builtin; go_loud (refine wpList_append_lies _ rfl (.tmp 28) (.tmp 34) 24 rfl w.heap.size 34 i0 (.agg #[.string ⟨#[]⟩,.int .i64 0,.int .i64 0]) 3 32 Tryd.underlying24 HH.out hz0 hz1 hz2 rfl (by decide) (.slice (some ⟨g,0,none⟩) k c') k _ rfl (row_keep (row_keep HO.out (λ b hb => Below.heap_alloc _ _ b hb)) (λ b hb => Below.heap_alloc _ _ b hb)) ⟨_,0,none⟩ 1 1 [.string d.act,.int .i64 d.a,.int .i64 d.b] rfl rfl (World.news_of_block (cs:=#[.string d.act,.int .i64 d.a,.int .i64 d.b]) (heap_new' _ _ (by simp))) (by simp [Value.oneCell']) (by decide) (by unfold maxLen; omega) (by omega) (by simp; omega) _ rfl ?_); intro g2 c2n w8 hown2 hgr2 hat2 hlt2; have HO2:=Lib.hid (And.intro hown2 (And.intro hgr2 hat2)); clear hown2 hgr2 hat2 hlt2)
     have HB8:=Lib.hid (show Below w.heap.size w w8 from (below_al (below_al HB.out _) _).trans (row_below HO.out HO2.out.2.1 (by simp; omega)))
     have HO3:=Lib.hid (show w8.ownsRow w.heap.size 34 3 (.slice (some ⟨g2,0,none⟩) (k + 1) c2n) (k + 1) (deeds ((ss.take (k + 1)).map (svDeed ts))) by
      rw [deeds_snoc3 ts HS.out,<- HDP.out]; exact HO2.out.1)
     clear hz0 hz1 hz2 t0' t1' t2' e1 e2
     go_wp2
     go_roundw
     case rel => exact ⟨k + 1,g2,c2n,by omega,by go_num,rfl,okSv_snoc HA.out HS.out HOK.out,HO3.out,HB8.out⟩
     case measure => simp [intOf]; omega
  ·have e : k = m:=by omega
   subst e
   have HF:=Lib.hid (deedsSF_good (ts:=ts) (ss:=ss) (λ j s hj => HA.out j s (by rw [<- HL.out.2]; exact hj)))
   have hown:=HO.out
   rw [List.take_of_length_le (by rw [HL.out.2]; exact Nat.le_refl _)] at hown
   have HO2:=Lib.hid hown
   clear hown
   go_wp2
   rw [HF.out]
   go_ret2
   obtain ⟨A',c',e',o⟩:=ownV_of_row HO2.out (by decide)
   injection e' with e1 e2 e3
   subst e1 e3
   exact ⟨_,_,_,rfl,o,HB.out⟩
end Go.Proofs.YtkfafknliihabaaDoor
namespace Go.Proofs.YtkfafknliihabaaDoor
open Go.RowKit
set_option maxRecDepth 20000 in
set_option maxHeartbeats 8000000 in
theorem spec_DeedsServed (lo hi n c lo2 hi2 m c2 : Nat) (A A2 : Option Addr) (ts : List DeedD) (ss : List SvD) (w : World) (h : Slc w lo hi 3 A n c (deeds ts)) (h2 : Slc w lo2 hi2 2 A2 m c2 (srvs ss)) (hn : n <= 1048576) (hm : m <= 1048576) :
  Calls Tryd.prog 20 #[.slice A n c,.slice A2 m c2] w (NewVB 34 3 w (deeds (deedsSF ts ss).1) (deedsSF ts ss).2):=by
 have hl:=h.deedLen
 have hl2:=h2.srvsLen
 obtain ⟨i0,hi0,hz0,hz1,hz2⟩:=info_parts info_deed
 have HI:=Lib.hid (And.intro hi0 (And.intro hz0 (And.intro hz1 hz2)))
 have HL:=Lib.hid (And.intro hl hl2)
 have H1:=Lib.hid h
 have H2:=Lib.hid h2
 have hnw : IntKind.i64.wrap ((n : Int) - 1) = (n : Int) - 1:=IntWalk.i64_in _ (by omega)
 clear hi0 hz0 hz1 hz2 hl hl2 h h2
 go_enter Tryd.func20, Tryd.ntmps20
 go_wp2
 go_loopw [6,7] (λ v i wr => ∃ (k g c : Nat),k <= m /\ i = .int .i64 k /\ v = .slice (some ⟨g,0,none⟩) k c /\ (∀ j s,j < k -> ss[j]? = some s -> okSv ts s = true) /\ wr.ownsRow w.heap.size 34 3 (.slice (some ⟨g,0,none⟩) k c) k (deeds ((ss.take k).map (svDeed ts))) /\ Below w.heap.size w wr) (λ _ i _ => m - (intOf i).toNat)
 case atStart => exact ⟨0,w.heap.size,0,Nat.zero_le _,rfl,rfl,λ j s hj => absurd hj (by omega),row_empty (Nat.le_refl _) (heap_alloc_new _ _),below_al (Below.refl _ _) _⟩
 case round =>
  obtain ⟨k,g,c',hk,rfl,rfl,hall,ho,B⟩:=hrel
  have HO:=Lib.hid ho
  have HB:=Lib.hid B
  have HA:=Lib.hid hall
  have sB:=B.size
  clear ho B hall
  by_cases hlt : k < m
  ·obtain ⟨b,off,s,hA,_,_,z,hs,e1,e2⟩:=(H2.out.below HB.out).srvsAt hlt
   subst hA
   have HS:=Lib.hid hs
   have i0' : (0 : Int) <= (k : Int):=by omega
   have i1' : (k : Int) < (m : Int):=by omega
   clear hs
   obtain ⟨x,t⟩:=s
   simp only [] at e1 e2
   cases hb : okSv ts ⟨x,t⟩ with
   | false =>
    have HF:=Lib.hid (deedsSF_bad HS.out hb)
    have hin : inB x 0 ((n : Int) - 1) = false:=by rw [<- HL.out.1]; exact hb
    clear hb
    go_wp2_with (go_at_call 35; refine (l1In_any _ _ _ _).mono ?_; rintro e w' ⟨rfl,rfl⟩; rw [hin])
    rw [HF.out]
    go_ret2
    exact ⟨_,0,0,rfl,OwnV.empty _ _ _ _,below_al HB.out _⟩
   | true =>
    have hin : inB x 0 ((n : Int) - 1) = true:=by rw [<- HL.out.1]; exact hb
    have HOK:=Lib.hid hb
    have hx2 : 0 <= x /\ x <= (n : Int) - 1:=by unfold inB at hin; simpa using hin
    obtain ⟨u,rfl⟩:=Int.eq_ofNat_of_zero_le hx2.1
    have x0' : (0 : Int) <= (u : Int):=by omega
    have xn' : (u : Int) < (n : Int):=by omega
    have hun : u < n:=by omega
    obtain ⟨bt,offt,d,hA3,_,_,zt,hd,t0,t1,t2⟩:=(H1.out.below HB.out).deedAt hun
    subst hA3
    have hdp : d = svDeed ts ⟨(u : Int),t⟩:=by
     unfold svDeed; simp only [Int.toNat_natCast]; rw [List.getD_eq_getElem?_getD,hd]; rfl
    have HDP:=Lib.hid hdp
    obtain ⟨hi0,hz0,hz1,hz2⟩:=HI.out
    have HH:=Lib.hid hi0
    have HIN:=Lib.hid hin
    clear hi0 hd hdp hb hin hx2
    go_wp2_with (first
     | (go_at_call 35; refine (l1In_any _ _ _ _).mono ?_; rintro e w' ⟨rfl,rfl⟩; rw [HIN.out])
     | (at_builtin; refine wpList_append_lies _ rfl (.tmp 26) (.tmp 35) 24 rfl w.heap.size 34 i0 (.agg #[.string ⟨#[]⟩,.int .i64 0,.int .i64 0]) 3 32 Tryd.underlying24 HH.out hz0 hz1 hz2 rfl (by decide) (.slice (some ⟨g,0,none⟩) k c') k _ rfl (row_keep HO.out (λ b hb => Below.heap_alloc _ _ b hb)) ⟨_,0,none⟩ 1 1 [.string d.act,.int .i64 d.a,.int .i64 d.b] rfl rfl (World.news_of_block (cs:=#[.string d.act,.int .i64 d.a,.int .i64 d.b]) (heap_new' _ _ (by simp))) (by simp [Value.oneCell']) (by decide) (by unfold maxLen; omega) (by omega) (by simp; omega) _ rfl ?_; intro g2 c2n w8 hown2 hgr2 hat2 hlt2; have HO2:=Lib.hid (And.intro hown2 (And.intro hgr2 hat2)); clear hown2 hgr2 hat2 hlt2))
    have HB8:=Lib.hid (show Below w.heap.size w w8 from (below_al HB.out _).trans (row_below HO.out HO2.out.2.1 (by simp; omega)))
    have HO3:=Lib.hid (show w8.ownsRow w.heap.size 34 3 (.slice (some ⟨g2,0,none⟩) (k + 1) c2n) (k + 1) (deeds ((ss.take (k + 1)).map (svDeed ts))) by
     rw [deeds_snoc3 ts HS.out,<- HDP.out]; exact HO2.out.1)
    clear hz0 hz1 hz2 t0 t1 t2 e1 e2
    go_wp2
    go_roundw
    case rel => exact ⟨k + 1,g2,c2n,by omega,by go_num,rfl,okSv_snoc HA.out HS.out HOK.out,HO3.out,HB8.out⟩
    case measure => simp [intOf]; omega
  ·have e : k = m:=by omega
   subst e
   have HF:=Lib.hid (deedsSF_good (ts:=ts) (ss:=ss) (λ j s hj => HA.out j s (by rw [<- HL.out.2]; exact hj)))
   have hown:=HO.out
   rw [List.take_of_length_le (by rw [HL.out.2]; exact Nat.le_refl _)] at hown
   have HO2:=Lib.hid hown
   clear hown
   go_wp2
   rw [HF.out]
   go_ret2
   obtain ⟨A',c',e',o⟩:=ownV_of_row HO2.out (by decide)
   injection e' with e1 e2 e3
   subst e1 e3
   exact ⟨_,_,_,rfl,o,HB.out⟩
end Go.Proofs.YtkfafknliihabaaDoor
namespace Go.Proofs.YtkfafknliihabaaDoor
open Go.RowKit
def NewRow (E s : Nat) (w : World) (xs : List Value) (n : Nat) (t : Bool) (e : Ending) (w' : World) : Prop:=
 ∃ g c,e = .returned (.tuple #[.slice (some ⟨g,0,none⟩) n c,.bool t]) /\ w'.ownsRow w.heap.size E s (.slice (some ⟨g,0,none⟩) n c) n xs /\ Below w.heap.size w w'
theorem row_from {E s : Nat} {w : World} {base base' n : Nat} {v : Value} {xs : List Value} (h : w.ownsRow base E s v n xs) (hb : base' <= base) : w.ownsRow base' E s v n xs:=by
 obtain ⟨hl,h | ⟨g,cap,cur,e,h1,h2⟩⟩:=h
 ·exact ⟨hl,.inl h⟩
 ·exact ⟨hl,.inr ⟨g,cap,cur,e,by omega,h2⟩⟩
set_option maxHeartbeats 8000000 in
theorem spec_ServeAroundR (lo hi n c lo2 hi2 m c2 lo3 hi3 q c3 : Nat) (A A2 A3 : Option Addr) (rooms : List Int) (ds ts : List DeedD) (tn : Int) (w : World) (h : Slc w lo hi 1 A n c (ints rooms)) (h2 : Slc w lo2 hi2 3 A2 m c2 (deeds ds)) (h3 : Slc w lo3 hi3 3 A3 q c3 (deeds ts)) (hn : n <= 1048576) (hm : m <= 1048576) (hq : q <= 1048576) :
  Calls Tryd.prog 15 #[.slice A n c,.slice A2 m c2,.slice A3 q c3,.int .i64 tn] w (NewRow 31 2 w (svals (servedF rooms ds ts tn true).1) (servedF rooms ds ts tn true).1.length (servedF rooms ds ts tn true).2):=by
 cases hd : choiceB rooms ds ts with
 | false =>
  have hF : servedF rooms ds ts tn true = ([],false):=by unfold servedF okS; rw [hd]; rfl
  rw [hF]
  go_enter Tryd.func15, Tryd.ntmps15
  go_wp2_with (go_at_call 34; refine (spec_l5Valid _ _ _ _ _ _ _ _ _ _ _ _ _ _ _ rooms ds ts _ h h2 h3 hn hm hq).mono ?_; rintro e w1 ⟨rfl,b1⟩; rw [hd])
  go_ret2
  exact ⟨_,0,rfl,row_empty b1.size (heap_alloc_new _ _),below_al b1 _⟩
 | true =>
  obtain ⟨hdb,htb⟩:=choice_of hd
  obtain ⟨u,hu⟩ : ∃ u,u = inB tn 0 40:=⟨_,rfl⟩
  have hok : okS rooms ds ts tn = u:=by
   unfold okS; rw [hd,hu]; unfold inB
   by_cases a : 0 <= tn <;> by_cases b : tn <= 40 <;> simp [a,b]
  have HD:=Lib.hid (And.intro hd (And.intro hdb htb))
  have HU:=Lib.hid hu
  cases u with
  | false =>
   have hF : servedF rooms ds ts tn true = ([],false):=by unfold servedF; rw [hok]; rfl
   rw [hF]
   clear hF hd hdb htb hu hok
   go_enter Tryd.func15, Tryd.ntmps15
   go_wp2_with (first
    | (go_at_call 34; refine (spec_l5Valid _ _ _ _ _ _ _ _ _ _ _ _ _ _ _ rooms ds ts _ h h2 h3 hn hm hq).mono ?_; rintro e w1 ⟨rfl,b1⟩; rw [HD.out.1])
    | (go_at_call 35; refine (l1In_any _ _ _ _).mono ?_; rintro e w' ⟨rfl,rfl⟩; rw [<- HU.out]))
   go_ret2
   exact ⟨_,0,rfl,row_empty b1.size (heap_alloc_new _ _),below_al b1 _⟩
  | true =>
   have htn : 0 <= tn /\ tn <= 40:=by unfold inB at hu; simpa using hu.symm
   obtain ⟨k,rfl⟩:=Int.eq_ofNat_of_zero_le htn.1
   have hk : k <= 40:=by omega
   obtain ⟨⟨t1,t8⟩,hts⟩:=ent_of htb
   have hF : servedF rooms ds ts (k : Int) true = (refF ts true k (runF rooms ds).1 (-1),true):=by
    unfold servedF
    rw [hok]
    simp only [if_true,Int.toNat_natCast]
    rw [serve_ref (λ d hd => (hts d hd).2) (by omega) k _ _ 0 (-1) (LsS.refl _) (Nat.zero_le _) rfl]
   have hsm : RunSmall 60 ((runF rooms ds).1,[]):=by
    obtain ⟨_,_,hd60,hp⟩:=deedsB_of hdb
    have hs:=runF_small hp ds.length
    rw [List.take_length] at hs
    intro l hl
    have:=hs l hl
    exact ⟨by omega,by omega,this.2.2⟩
   have HSM:=Lib.hid hsm
   rw [hF]
   clear hF hd hdb htb hu hok hts t1 t8 hsm htn
   go_enter Tryd.func15, Tryd.ntmps15
   go_wp2_with (first
    | (go_at_call 34; refine (spec_l5Valid _ _ _ _ _ _ _ _ _ _ _ _ _ _ _ rooms ds ts _ h h2 h3 hn hm hq).mono ?_; rintro e w1 ⟨rfl,b1⟩; rw [HD.out.1]; have h1:=h.below b1; have h21:=h2.below b1; have h31:=h3.below b1)
    | (go_at_call 35; refine (l1In_any _ _ _ _).mono ?_; rintro e w' ⟨rfl,rfl⟩; rw [<- HU.out])
    | (go_at_call 36; refine (l1Run_any _ _ _ _ _ _ _ _ _ _ rooms ds _ h1 h21 HD.out.2.1).mono ?_; rintro e w2 ⟨gl,cl,go,co,vs,rfl,St⟩; have HST:=Lib.hid St; clear St)
    | (go_at_call 37; refine (spec_l5Serve (ar:=true) (lines:=(rooms.length : Int)) (told:=(runF rooms ds).2) HST.out ?c1 HSM.out HD.out.2.2 (h31.old) hk).mono ?_; (case c1 => rfl); rintro e w3 ⟨g9,c9,rfl,o9,b9⟩))
   go_ret2
   have z1:=b1.size
   have z2:=HST.out.B.size
   exact ⟨_,_,rfl,row_from o9 (by omega),b1.trans (b9.mono z1)⟩
end Go.Proofs.YtkfafknliihabaaDoor
namespace Go.Proofs.YtkfafknliihabaaDoor
open Go.RowKit
def DrewServed (w : World) (e : Ending) (w' : World) : Prop:=
 ∃ (A1 : Option Addr) (n1 c1 : Nat) (ts : List DeedD) (A2 : Option Addr) (n2 c2 : Nat) (ss : List SvD),e = .returned (.tuple #[.slice A1 n1 c1,.slice A2 n2 c2]) /\ Slc w' w.heap.size w'.heap.size 3 A1 n1 c1 (deeds ts) /\ Slc w' w.heap.size w'.heap.size 2 A2 n2 c2 (srvs ss) /\ n1 <= 20 /\ n2 <= 100 /\ Below w.heap.size w w'
theorem servedF_le (rooms : List Int) (ds ts : List DeedD) (tn : Int) (ar : Bool) : (servedF rooms ds ts tn ar).1.length <= 40:=by
 unfold servedF
 split
 ·rename_i h
  unfold okS at h
  simp at h
  have:=serveF_len (ts:=ts) (around:=ar) tn.toNat (runF rooms ds).1 0
  show (serveF ts ar tn.toNat (runF rooms ds).1 0).length <= 40
  omega
 ·simp
theorem row_lt2 {E s : Nat} {w : World} {base g n c : Nat} {xs : List Value} (h : w.ownsRow base E s (.slice (some ⟨g,0,none⟩) n c) n xs) : g < w.heap.size /\ base <= g:=by
 obtain ⟨h1,cs,h2,_⟩:=row_blk h
 exact ⟨blk_lt h2,h1⟩
theorem gb_blk {a b : World} {g i : Nat} (h : a.grownBy b (some g)) (hi : i < a.heap.size) (hne : i ≠ g) : b.heap[i]? = a.heap[i]?:=h.block i hi (by intro e; injection e with e; exact hne e)
set_option maxHeartbeats 8000000 in
theorem DrawDeedsServed_any (A : Option Addr) (n c : Nat) (w : World) (h : Code w A n c) : Calls Tryd.prog 18 #[.slice A n c] w (DrewServed w):=by
 go_enter Tryd.func18, Tryd.ntmps18
 go_wp2_with fail
 refine (open_any _ _ _ _ h).mono ?_
 rintro e w1 ⟨g,A1,n1,c1,rfl,r1,b1,g0⟩
 have HB1:=Lib.hid b1
 have z1:=b1.size
 have hgl:=r1.gblt
 clear h b1
 go_wp2_with fail
 refine (l5Case_any g 0 n1 c1 A1 _ r1 (by omega)).mono ?_
 rintro e w2 ⟨B1,m1,d1,xs,B2,m2,d2,ds,B3,m3,d3,ts,rfl,o1,o2,o3,h1,h2,h3,r2,g2⟩
 have s2:=g2.size
 have HO:=Lib.hid (And.intro o1 (And.intro o2 (And.intro o3 (And.intro r2 g2))))
 clear r1 o1 o2 o3 g2 r2
 go_wp2_with fail
 refine (spec_ServeAroundR _ _ _ _ _ _ _ _ _ _ _ _ _ _ _ xs ds ts 5 _ HO.out.1.slc HO.out.2.1.slc HO.out.2.2.1.slc (by omega) (by omega) (by omega)).mono ?_
 rintro e w3 ⟨g3,c3,rfl,o4,b4⟩
 have hL:=servedF_le xs ds ts 5 true
 generalize hF : (servedF xs ds ts 5 true).1 = F at o4 hL ⊢
 generalize hL' : F.length = L at o4 hL ⊢
 generalize (servedF xs ds ts 5 true).2 = tt
 have s3:=b4.size
 have hg3:=row_lt2 o4
 have HO4:=Lib.hid (And.intro o4 b4)
 have HR3:=Lib.hid (HO.out.2.2.2.1.below b4)
 clear o4 b4 hF hL'
 go_wp2_with fail
 refine (pick_any g _ n1 c1 A1 12 _ HR3.out (by omega) (by omega) (by omega)).mono ?_
 rintro e w4 ⟨p,rfl,hp,r4,g4⟩
 have s4:=g4.size
 have HR4:=Lib.hid (And.intro r4 g4)
 have HK4:=Lib.hid (row_at HO4.out.1 (gb_blk g4 hg3.1 (by omega)))
 have HT4:=Lib.hid (show OwnC 34 3 w4 w1.heap.size w4.heap.size B3 m3 d3 (deeds ts) from ((HO.out.2.2.1.keep HO4.out.2.size (λ b _ _ h => HO4.out.2.block b h)).gb g4 hgl).wide (Nat.le_refl _) (by omega))
 have HB4:=Lib.hid (show Below w.heap.size w w4 from (((HB1.out.trans (below_of_gb HO.out.2.2.2.2 g0 z1)).trans (HO4.out.2.mono (by omega)))).trans (below_of_gb g4 g0 (by omega)))
 clear r4 g4
 by_cases hp0 : p = 0
 ·subst hp0
  obtain ⟨i1,hi0,hz0,hz1,hz2⟩:=info_parts info_served
  have HH:=Lib.hid hi0
  clear hi0
  go_wp2_with fail
  refine (num_any g _ n1 c1 _ 0 3 3 A1 _ (HR4.out.1.alloc _) (by omega) (by omega) (by omega) (by simp) (by omega) (num_lits (xs:=[-1,8,0]) (heap_alloc_new _ _) rfl)).mono ?_
  rintro e w5 ⟨x,rfl,_,hr,hg⟩
  have s5:=hg.size
  have HG5:=Lib.hid (gb_trans (gb_al (World.grownBy.refl w4 _) _) hg)
  have s45:=HG5.out.size
  clear hr hg
  have HK5:=Lib.hid (row_at HK4.out (gb_blk HG5.out (by omega) (by omega)))
  go_wp2_with (at_builtin; refine wpList_append_lies _ rfl (.tmp 28) (.tmp 33) 27 rfl w2.heap.size 31 i1 (.agg #[.int .i64 0,.string ⟨#[]⟩]) 2 24 Tryd.underlying27 HH.out hz0 hz1 hz2 rfl (by decide) (.slice (some ⟨g3,0,none⟩) L c3) L _ rfl (row_keep HK5.out (λ b hb => Below.heap_alloc _ _ b hb)) ⟨_,0,none⟩ 1 1 [.int .i64 x,.string ⟨#[120]⟩] rfl rfl (World.news_of_block (cs:=#[.int .i64 x,.string ⟨#[120]⟩]) (heap_new' _ _ (by simp))) (by simp [Value.oneCell']) (by decide) (by unfold maxLen; omega) (by omega) (by simp; omega) _ rfl ?_; intro g6 c6 w6 hown6 hgr6 hat6 hlt6; have HO6:=Lib.hid (And.intro hown6 hgr6); clear hown6 hgr6 hat6 hlt6)
  have HB56:=Lib.hid (show Below w2.heap.size w5 w6 from ((below_al (Below.refl _ w5) _).mono (by omega)).trans (row_below HK5.out HO6.out.2 (by simp; omega)))
  have s6:=HB56.out.size
  clear hz0 hz1 hz2
  go_wp2
  refine bodyPost_ret (v:=.tuple #[.slice B3 m3 d3,.slice (some ⟨g6,0,none⟩) (L + 1) c6]) (by simp [results,Tryd.results18,go_sem]) rfl ?_
  refine ⟨B3,m3,d3,ts,_,L + 1,c6,svds F ++ [⟨x,⟨#[120]⟩⟩],rfl,?_,?_,h3,by omega,?_⟩
  ·have k:=(HO.out.2.2.1.slc.keep (w':=w6) (by omega) (λ b hb1 hb2 hb3 => by
    refine (HB56.out.block b hb2).trans ((gb_blk HG5.out (by omega) (by omega)).trans ?_)
    refine (gb_blk HR4.out.2 (by omega) (by omega)).trans (HO4.out.2.block b (by omega))))
   exact k.wide (by omega) (by omega)
  ·have k:=row_slc HO6.out.1 (by decide)
   rw [<- srvs_svds] at k
   have e : srvs (svds F) ++ [Value.int .i64 x,.string ⟨#[120]⟩] = srvs (svds F ++ [⟨x,⟨#[120]⟩⟩]):=by simp [srvs,SvD.cells]
   rw [e] at k
   exact k.wide (by omega) (Nat.le_refl _)
  ·exact (HB4.out.trans (below_of_gb HG5.out g0 (by omega))).trans (HB56.out.mono (by omega))
 ·have hp0' : ¬ p = 0:=hp0
  go_wp2
  refine bodyPost_ret (v:=.tuple #[.slice B3 m3 d3,.slice (some ⟨g3,0,none⟩) L c3]) (by simp [results,Tryd.results18,go_sem]) rfl ?_
  have k:=row_slc HK4.out (by decide)
  rw [<- srvs_svds] at k
  exact ⟨B3,m3,d3,ts,_,L,c3,svds F,rfl,HT4.out.slc.wide (by omega) (Nat.le_refl _),k.wide (by omega) (Nat.le_refl _),h3,by omega,HB4.out⟩
end Go.Proofs.YtkfafknliihabaaDoor
namespace Go.Proofs.YtkfafknliihabaaDoor
open Go.RowKit
noncomputable def bodyFD : Go.Code:=(Tryd.f5.body).getD .skip
noncomputable def lFD : Go.Code:=match bodyFD with | .seq _ (.seq _ (.seq _ (.seq _ (.seq _ (.seq _ (.seq a _)))))) => a | _ => .skip
noncomputable def tFD : Go.Code:=match bodyFD with | .seq _ (.seq _ (.seq _ (.seq _ (.seq _ (.seq _ (.seq _ (.seq _ (.seq _ a)))))))) => a | _ => .skip
theorem runF_pre (rooms : List Int) : ∀ (b a : List DeedD),∃ T,(runF rooms (a ++ b)).2 = (runF rooms a).2 ++ T:=by
 intro b
 induction b with
 | nil => intro a; exact ⟨[],by simp⟩
 | cons d b ih =>
  intro a
  obtain ⟨T,hT⟩:=ih (a ++ [d])
  rw [runF_snoc] at hT
  refine ⟨(doneF ((runF rooms a).1.getD d.a.toNat l00) d).2 :: T,?_⟩
  rw [show a ++ d :: b = a ++ [d] ++ b by simp,hT]
  show (runF rooms a).2 ++ [_] ++ T = _
  rw [List.append_assoc]; rfl
theorem SrvPl.toldAll {rooms : List Int} {ds ts : List DeedD} {ar : Bool} {m : Nat} {F : List (Nat × List UInt8)} (h : SrvPl rooms ds ts ar m F) (hk : ds.length + F.length <= 60) {k : Nat} {p : Nat × List UInt8} (hp : F[k]? = some p) : (runLinesF rooms (ds ++ F.map (entD ts))).1[ds.length + k]? = some p.2:=by
 have h1:=h.deeds (k:=F.length) hk
 rw [List.take_length] at h1
 unfold runLinesF
 rw [if_pos h1]
 show (runF rooms (ds ++ F.map (entD ts))).2[ds.length + k]? = some p.2
 have h2:=h.ans k p hp
 obtain ⟨hlt,_⟩:=List.getElem?_eq_some_iff.1 h2
 have e : ds ++ F.map (entD ts) = (ds ++ (F.take (k + 1)).map (entD ts)) ++ (F.drop (k + 1)).map (entD ts):=by
  rw [List.append_assoc,<- List.map_append,List.take_append_drop]
 obtain ⟨T,hT⟩:=runF_pre rooms ((F.drop (k + 1)).map (entD ts)) (ds ++ (F.take (k + 1)).map (entD ts))
 rw [e,hT,List.getElem?_append_left hlt]
 exact h2
theorem deedsSF_served {rooms : List Int} {ds ts : List DeedD} {ar : Bool} {m : Nat} {F : List (Nat × List UInt8)} (h : SrvPl rooms ds ts ar m F) : deedsSF ts (svds F) = (F.map (entD ts),true):=by
 rw [deedsSF_good]
 ·congr 1
  unfold svds
  rw [List.map_map]
  rfl
 ·intro j s hj hs
  unfold svds at hs
  rw [List.getElem?_map] at hs
  cases hF : F[j]? with
  | none => rw [hF] at hs; cases hs
  | some p =>
   rw [hF] at hs
   simp only [Option.map_some,Option.some.injEq] at hs
   subst hs
   have:=h.ent j p hF
   exact okSv_of (by show (0 : Int) <= (p.1 : Int); omega) (by show (p.1 : Int) < _; omega)
section
variable {Q : Exit -> Go.Act -> World -> Prop} {w : World} {v0 v1 u2 u3 u11 u12 u13 u14 u15 u16 u17 u18 u19 u20 u21 u22 u23 u24 u25 u26 u27 u28 u29 u30 u31 u32 u33 u34 u35 u36 u37 u38 u39 u40 u41 u42 u43 u44 u45 u46 u47 u48 u49 u50 u51 u52 u53 u54 u55 u56 u57 u58 u59 u60 u61 u62 u63 u64 u65 u66 u67 u68 u69 u70 u71 u72 u73 u74 u75 u76 u77 u78 u79 u80 u81 u82 u83 u84 u85 u86 u87 u88 u89 u90 u91 u92 u93 u94 u95 u96 u97 u98 u99 u100 u101 u102 u103 u104 u105 u106 u107 u108 u109 u110 u111 u112 u113 u114 u115 u116 u117 u118 u119 u120 u121 u122 u123 u124 u125 u126 u127 u128 u129 u130 u131 u132 u133 u134 u135 u136 u137 u138 u139 u140 u141 u142 u143 u144 u145 u146 u147 u148 u149 u150 u151 u152 u153 u154 u155 u156 u157 u158 u159 u160 u161 u162 u163 u164 u165 u166 u167 u168 u169 u170 u171 u172 u173 u174 u175 : Value} {A1 A2 A7 A9 : Option Addr} {n1 c1 m cc2 c7 c9 lo1 hi1 lo2 hi2 lo7 hi7 lo9 hi9 : Nat} {ts : List DeedD} {ss : List SvD}
set_option maxHeartbeats 16000000 in
set_option maxRecDepth 100000 in
theorem wpFDl (h1 : Slc w lo1 hi1 3 A1 n1 c1 (deeds ts)) (h2 : Slc w lo2 hi2 2 A2 m cc2 (srvs ss)) (h7 : Slc w lo7 hi7 3 A7 m c7 (deeds (ss.map (svDeed ts)))) (h9 : Slc w lo9 hi9 3 A9 m c9 (deeds (ss.map (svDeed ts)))) (hn1 : n1 <= 20) (hm : m <= 100) (hok : ∀ j s,j < ss.length -> ss[j]? = some s -> okSv ts s = true)
  (HQ : Hid (∀ (x4 x11 x72 x73 x74 x75 x76 x77 x78 x79 x80 x81 x82 x83 x84 x85 x86 x87 x88 x89 x90 x91 x92 x93 x94 x95 x96 x97 x98 x99 x100 x101 : Value) (w' : World),Below w.heap.size w w' -> Q .normal ⟨#[v0,v1,u2,u3,x4,.slice A1 n1 c1,.slice A2 m cc2,.slice A7 m c7,.bool true,.slice A9 m c9,.bool true,x11,u12,u13,u14,u15,u16,u17,u18,u19,u20,u21,u22,u23,u24,u25,u26,u27,u28,u29,u30,u31,u32,u33,u34,u35,u36,u37,u38,u39,u40,u41,u42,u43,u44,u45,u46,u47,u48,u49,u50,u51,u52,u53,u54,u55,u56,u57,u58,u59,u60,u61,u62,u63,u64,u65,u66,u67,u68,u69,u70,u71,x72,x73,x74,x75,x76,x77,x78,x79,x80,x81,x82,x83,x84,x85,x86,x87,x88,x89,x90,x91,x92,x93,x94,x95,x96,x97,x98,x99,x100,x101,u102,u103,u104,u105,u106,u107,u108,u109,u110,u111,u112,u113,u114,u115,u116,u117,u118,u119,u120,u121,u122,u123,u124,u125,u126,u127,u128,u129,u130,u131,u132,u133,u134,u135,u136,u137,u138,u139,u140,u141,u142,u143,u144,u145,u146,u147,u148,u149,u150,u151,u152,u153,u154,u155,u156,u157,u158,u159,u160,u161,u162,u163,u164,u165,u166,u167,u168,u169,u170,u171,u172,u173,u174,u175],[]⟩ w')) :
  Go.Code.wp Tryd.prog lFD Q ⟨#[v0,v1,u2,u3,.bool false,.slice A1 n1 c1,.slice A2 m cc2,.slice A7 m c7,.bool true,.slice A9 m c9,.bool true,u11,u12,u13,u14,u15,u16,u17,u18,u19,u20,u21,u22,u23,u24,u25,u26,u27,u28,u29,u30,u31,u32,u33,u34,u35,u36,u37,u38,u39,u40,u41,u42,u43,u44,u45,u46,u47,u48,u49,u50,u51,u52,u53,u54,u55,u56,u57,u58,u59,u60,u61,u62,u63,u64,u65,u66,u67,u68,u69,u70,u71,u72,u73,u74,u75,u76,u77,u78,u79,u80,u81,u82,u83,u84,u85,u86,u87,u88,u89,u90,u91,u92,u93,u94,u95,u96,u97,u98,u99,u100,u101,u102,u103,u104,u105,u106,u107,u108,u109,u110,u111,u112,u113,u114,u115,u116,u117,u118,u119,u120,u121,u122,u123,u124,u125,u126,u127,u128,u129,u130,u131,u132,u133,u134,u135,u136,u137,u138,u139,u140,u141,u142,u143,u144,u145,u146,u147,u148,u149,u150,u151,u152,u153,u154,u155,u156,u157,u158,u159,u160,u161,u162,u163,u164,u165,u166,u167,u168,u169,u170,u171,u172,u173,u174,u175],[]⟩ w:=by
 have HL:=Lib.hid (And.intro h1.deedLen h2.srvsLen)
 have HS:=Lib.hid (And.intro h1 (And.intro h2 (And.intro h7 (And.intro h9 hok))))
 clear h1 h2 h7 h9 hok
 simp only [lFD,bodyFD,Tryd.f5,Option.getD_some]
 go_wp2
 go_loopw [11] (λ i wr => ∃ k : Nat,k <= m /\ i = .int .i64 k /\ Below w.heap.size w wr) (λ i _ => m - (intOf i).toNat)
 case atStart => exact ⟨0,Nat.zero_le _,rfl,Below.refl _ _⟩
 case round =>
  obtain ⟨k,hk,rfl,B⟩:=hrel
  have HB:=Lib.hid B
  clear B
  by_cases hlt : k < m
  ·obtain ⟨b2,off2,s,hA2,_,_,z2,hs,e1,e2⟩:=(HS.out.2.1.below HB.out).srvsAt hlt
   have hos:=HS.out.2.2.2.2 k s (by rw [HL.out.2]; exact hlt) hs
   have hx2 : 0 <= s.i /\ s.i <= (n1 : Int) - 1:=by rw [<- HL.out.1]; unfold okSv inB at hos; simpa using hos
   obtain ⟨x,sa⟩:=s
   simp only [] at e1 e2 hx2
   obtain ⟨u,rfl⟩:=Int.eq_ofNat_of_zero_le hx2.1
   have hun : u < n1:=by omega
   obtain ⟨b1,off1,d,hA1,_,_,z1,hd,t0,t1,t2⟩:=(HS.out.1.below HB.out).deedAt hun
   obtain ⟨b7,off7,d7,hA7,_,_,z7,hd7,f0,f1,f2⟩:=(HS.out.2.2.1.below HB.out).deedAt hlt
   obtain ⟨b9,off9,d9,hA9,_,_,z9,hd9,g0,g1,g2⟩:=(HS.out.2.2.2.1.below HB.out).deedAt hlt
   have hm2 : (ss.map (svDeed ts))[k]? = some d:=by
    rw [List.getElem?_map,hs]
    show some (svDeed ts ⟨(u : Int),sa⟩) = some d
    unfold svDeed
    simp only [Int.toNat_natCast]
    rw [List.getD_eq_getElem?_getD,hd]; rfl
   obtain rfl : d7 = d:=by rw [hm2] at hd7; injection hd7 with h; exact h.symm
   obtain rfl : d9 = d7:=by rw [hm2] at hd9; injection hd9 with h; exact h.symm
   subst hA1 hA2 hA7 hA9
   have i0' : (0 : Int) <= (k : Int):=by omega
   have i1' : (k : Int) < (m : Int):=by omega
   have x0' : (0 : Int) <= (u : Int):=by omega
   have x1' : (u : Int) < (n1 : Int):=by omega
   clear hs hos hx2 hd hd7 hd9 hm2
   go_wp2_with fail
   go_quiet (fail)
   go_wp2
   go_roundw
   case rel => exact ⟨k + 1,by omega,by go_num,HB.out.trans (below_drewN (Below.refl _ _) _)⟩
   case measure => simp [intOf]; omega
  ·have e : k = m:=by omega
   subst e
   go_wp2
   exact HQ.out _ _ _ _ _ _ _ _ _ _ _ _ _ _ _ _ _ _ _ _ _ _ _ _ _ _ _ _ _ _ _ _ _ HB.out
end
section
variable {Q : Exit -> Go.Act -> World -> Prop} {w : World} {v0 v1 u2 u3 u4 u5 u8 u9 u10 u11 u15 u18 u19 u20 u21 u22 u23 u24 u25 u26 u27 u28 u29 u30 u31 u32 u33 u34 u35 u36 u37 u38 u39 u40 u41 u42 u43 u44 u45 u46 u47 u48 u49 u50 u51 u52 u53 u54 u55 u56 u57 u58 u59 u60 u61 u62 u63 u64 u65 u66 u67 u68 u69 u70 u71 u72 u73 u74 u75 u76 u77 u78 u79 u80 u81 u82 u83 u84 u85 u86 u87 u88 u89 u90 u91 u92 u93 u94 u95 u96 u97 u98 u99 u100 u101 u102 u103 u104 u105 u106 u107 u108 u109 u110 u111 u112 u113 u114 u115 u116 u117 u118 u119 u120 u121 u122 u123 u124 u125 u126 u127 u128 u129 u130 u131 u132 u133 u134 u135 u136 u137 u138 u139 u140 u141 u142 u143 u144 u145 u146 u147 u148 u149 u150 u151 u152 u153 u154 u155 u156 u157 u158 u159 u160 u161 u162 u163 u164 u165 u166 u167 u168 u169 u170 u171 u172 u173 u174 u175 : Value} {A1 A2 A3 A6 A7 A : Option Addr} {n1 c1 n2 c2 n3 c3 n c m c6 c7 lo1 hi1 lo2 hi2 lo3 hi3 lo hi : Nat} {rooms : List Int} {ds ts : List DeedD} {tn : Int} {F : List (Nat × List UInt8)} {t : Bool}
set_option maxHeartbeats 16000000 in
set_option maxRecDepth 100000 in
theorem wpFD (h1 : Slc w lo1 hi1 1 A1 n1 c1 (ints rooms)) (h2 : Slc w lo2 hi2 3 A2 n2 c2 (deeds ds)) (h3 : Slc w lo3 hi3 3 A3 n3 c3 (deeds ts)) (hn1 : n1 <= 10) (hn2 : n2 <= 20) (hn3 : n3 <= 20) (hm : m <= 100) (hT : TabW w) (hG : Slc w lo hi 2 A n c (svals F)) (hS : servedF rooms ds ts tn false = (F,t))
  (HQ : Hid (∀ (a' : Go.Act) (w' : World),a'.tmps.getD 4 undef = .bool true -> Q .ret a' w')) :
  Go.Code.wp Tryd.prog tFD Q ⟨#[v0,v1,u2,u3,u4,u5,.slice A6 m c6,.slice A7 m c7,u8,u9,u10,u11,.slice A1 n1 c1,.slice A2 n2 c2,.slice A3 n3 c3,u15,.slice A n c,.bool t,u18,u19,u20,u21,u22,u23,u24,u25,u26,u27,u28,u29,u30,u31,u32,u33,u34,u35,u36,u37,u38,u39,u40,u41,u42,u43,u44,u45,u46,u47,u48,u49,u50,u51,u52,u53,u54,u55,u56,u57,u58,u59,u60,u61,u62,u63,u64,u65,u66,u67,u68,u69,u70,u71,u72,u73,u74,u75,u76,u77,u78,u79,u80,u81,u82,u83,u84,u85,u86,u87,u88,u89,u90,u91,u92,u93,u94,u95,u96,u97,u98,u99,u100,u101,u102,u103,u104,u105,u106,u107,u108,u109,u110,u111,u112,u113,u114,u115,u116,u117,u118,u119,u120,u121,u122,u123,u124,u125,u126,u127,u128,u129,u130,u131,u132,u133,u134,u135,u136,u137,u138,u139,u140,u141,u142,u143,u144,u145,u146,u147,u148,u149,u150,u151,u152,u153,u154,u155,u156,u157,u158,u159,u160,u161,u162,u163,u164,u165,u166,u167,u168,u169,u170,u171,u172,u173,u174,u175],[]⟩ w:=by
 have HT:=Lib.hid hT
 clear hT
 have l1:=svals_len hG
 have hG2:=hG
 rw [<- srvs_svds] at hG2
 have hn40 : n <= 40:=by have h:=servedF_le rooms ds ts tn false; rw [hS] at h; rw [<- l1]; exact h
 simp only [tFD,bodyFD,Tryd.f5,Option.getD_some]
 go_wp2_with fail
 refine (impl_DeedsServed _ _ _ _ _ _ _ _ _ _ ts (svds F) _ h3 hG2 (by omega) (by omega)).mono ?_
 rintro e w1 ⟨RA,Rn,Rc,rfl,R,b1⟩
 cases t with
 | false =>
  have hF : F = []:=by
   unfold servedF at hS
   split at hS
   ·injection hS with _ h; cases h
   ·injection hS with h _; exact h.symm
  subst hF
  have hdd : deedsSF ts (svds []) = ([],true):=rfl
  rw [hdd]
  clear R h1 h2 h3 hG hG2
  go_wp2
  exact HQ.out _ _ rfl
 | true =>
  have hok : okS rooms ds ts tn = true:=by
   cases h : okS rooms ds ts tn with
   | true => rfl
   | false => unfold servedF at hS; rw [h] at hS; simp at hS
  have hF : F = serveF ts false tn.toNat (runF rooms ds).1 0:=by
   unfold servedF at hS; rw [hok] at hS; simp at hS; exact hS.symm
  have SP:=Lib.hid (hF ▸ srvPl (ar:=false) hok : SrvPl rooms ds ts false tn.toNat F)
  have hdd:=deedsSF_served SP.out
  rw [hdd] at R
  rw [hdd]
  have hl2:=h2.deedLen
  have hlR:=R.slc.deedLen
  obtain rfl : Rn = n:=by rw [<- hlR]; simp [l1]
  have HX:=Lib.hid (And.intro l1 hl2)
  have s1:=b1.size
  have HS:=Lib.hid (And.intro (h1.below b1) (And.intro (h2.below b1) (And.intro (hG.below b1) (And.intro R.slc (HT.out.below b1)))))
  obtain ⟨i0,hi0,hz0,hz1,hz2⟩:=info_parts info_deed
  have HH:=Lib.hid hi0
  have hgt : ¬ (60 : Int) < (n2 : Int) + (Rn : Int):=by omega
  have hwr : IntKind.i64.wrap ((n2 : Int) + (Rn : Int)) = (n2 : Int) + (Rn : Int):=IntWalk.i64_in _ (by omega)
  clear h1 h2 h3 hG hG2 R hS hok hF hdd l1 hl2 hlR hi0 b1
  go_wp2_with (first
   | (at_builtin; refine wpList_apps _ rfl (.tmp 144) (.tmp 145) 24 rfl w1.heap.size 34 i0 (.agg #[.string ⟨#[]⟩,.int .i64 0,.int .i64 0]) 3 32 Tryd.underlying24 HH.out hz0 hz1 hz2 rfl (by decide) _ 0 0 [] rfl (row_empty (Nat.le_refl _) (heap_alloc_new _ _)) A2 n2 c2 _ _ (deeds ds) rfl (HS.out.2.1.below (below_al (Below.refl _ _) _)) (deeds_cell _) (by unfold maxLen; omega) (by omega) (by simp) ?_; intro g1 c1n w2 hown1 hgr1 B1; rw [Nat.zero_add]; simp only [Nat.zero_add,List.nil_append] at hown1; have HO1:=Lib.hid hown1; have HB1:=Lib.hid (show Below w1.heap.size w1 w2 from (below_al (Below.refl _ _) _).trans (B1.mono (by simp))); have z2:=HB1.out.size; clear hown1 hgr1 B1)
   | (at_builtin; refine wpList_apps _ rfl (.tmp 146) (.tmp 147) 24 rfl w1.heap.size 34 i0 (.agg #[.string ⟨#[]⟩,.int .i64 0,.int .i64 0]) 3 32 Tryd.underlying24 HH.out hz0 hz1 hz2 rfl (by decide) _ n2 c1n (deeds ds) rfl HO1.out RA Rn Rc _ _ _ rfl (HS.out.2.2.2.1.below HB1.out) (deeds_cell _) (by unfold maxLen; omega) (by omega) (by omega) ?_; intro g2 c2n w3 hown2 hgr2 B2; have HO2:=Lib.hid (And.intro hown2 B2); clear hown2 hgr2 B2))
  have HB3:=Lib.hid (HB1.out.trans HO2.out.2)
  have z3:=HB3.out.size
  have hD3:=row_slc HO2.out.1 (by decide)
  have e3 : deeds ds ++ deeds (F.map (entD ts)) = deeds (ds ++ F.map (entD ts)):=by unfold deeds; rw [List.flatMap_append]
  rw [e3] at hD3
  have HR3:=Lib.hid (And.intro (HS.out.1.below HB3.out) (And.intro hD3 (HS.out.2.2.2.2.below HB3.out)))
  clear hD3 e3 hz0 hz1 hz2
  go_wp2_with fail
  refine (impl_RunLines _ _ _ _ _ _ _ _ _ _ rooms (ds ++ F.map (entD ts)) _ HR3.out.1 HR3.out.2.1 (by omega) (by omega) HR3.out.2.2).mono ?_
  rintro e w4 ⟨A7',n7,c7',rfl,o7,b7⟩
  have z4:=b7.size
  have HB4:=Lib.hid (HB3.out.trans (b7.mono z3))
  have HO7:=Lib.hid o7
  have HN7:=o7.slc.txtLen
  have hn7 : n7 = n2 + Rn:=by
   rw [<- HN7]
   have h1:=SP.out.deeds (k:=F.length) (by have:=HX.out.1; have:=HX.out.2; omega)
   rw [List.take_length] at h1
   unfold runLinesF
   rw [if_pos h1]
   rw [(runF_len _ _).2]
   have:=HX.out.1
   have:=HX.out.2
   simp; omega
  have HN:=Lib.hid hn7
  generalize hRT : (runLinesF rooms (ds ++ F.map (entD ts))).2 = tt
  have HT7:=Lib.hid (λ k p (hp : F[k]? = some p) => SP.out.toldAll (by have:=HX.out.1; have:=HX.out.2; omega) hp)
  have hn7' : (n7 : Int) = (n2 : Int) + (Rn : Int):=by omega
  clear o7 b7 hRT HN7 hn7 hgt hwr
  go_wp2
  go_loopw [22] (λ i wr => ∃ k : Nat,k <= Rn /\ i = .int .i64 k /\ Below w4.heap.size w4 wr) (λ i _ => Rn - (intOf i).toNat)
  case atStart => exact ⟨0,Nat.zero_le _,rfl,Below.refl _ _⟩
  case round =>
   obtain ⟨k,hk,rfl,B⟩:=hrel
   have HB:=Lib.hid B
   clear B
   by_cases hlt : k < Rn
   ·obtain ⟨b,off,p,hA,z,hp,e1,e2⟩:=svals_at ((HS.out.2.2.1.below HB4.out).below (HB.out)) hlt
    obtain ⟨b7,off7,tx,hA7,_,_,z7,hx7,hv7⟩:=(HO7.out.slc.below HB.out).txtAt (show n2 + k < n7 by omega)
    have h7:=HT7.out k p hp
    rw [HX.out.2] at h7
    obtain rfl : tx = p.2:=by rw [h7] at hx7; injection hx7 with h; exact h.symm
    subst hA hA7
    have i0' : (0 : Int) <= (k : Int):=by omega
    have i1' : (k : Int) < (Rn : Int):=by omega
    have j0' : (0 : Int) <= (n2 : Int) + (k : Int):=by omega
    have j1' : (n2 : Int) + (k : Int) < (n7 : Int):=by omega
    have j2' : ((n2 : Int) + (k : Int)).toNat = n2 + k:=by omega
    have j3' : IntKind.i64.wrap ((n2 : Int) + (k : Int)) = (n2 : Int) + (k : Int):=IntWalk.i64_in _ (by omega)
    clear hp h7 hx7 hn7'
    go_wp2_with fail
    go_quiet (fail)
    go_wp2
    go_roundw
    case rel => exact ⟨k + 1,by omega,by go_num,HB.out.trans (below_drewN (Below.refl _ _) _)⟩
    case measure => simp [intOf]; omega
   ·have e : k = Rn:=by omega
    subst e
    go_wp2
    exact HQ.out _ _ rfl
end
end Go.Proofs.YtkfafknliihabaaDoor
namespace Go.Mt
open Go.Conc Go.Tt
theorem clean_ex : ∀ (n : Nat) (u : Value),SizeOf.sizeOf u < n -> ∃ u',Uni u' /\ (∀ (S : FuncId -> Prop) (K R : Pr) (v : Value),VR S K R u v -> VR S K R u' v) /\ (plainV u -> u' = u):=by
 intro n
 induction n with
 | zero => intro u h; omega
 | succ n ih =>
  intro u hu
  have pl : ∀ {x : Value},(∀ k m,x ≠ .int k m) -> (∀ s,x ≠ .string s) -> (∀ b,x ≠ .bool b) -> ∀ {y : Value},plainV x -> y = x:=λ h1 h2 h3 y hx => by
   rcases hx with ⟨k,m,e⟩ | ⟨s,e⟩ | ⟨b,e⟩
   ·exact absurd e (h1 _ _)
   ·exact absurd e (h2 _)
   ·exact absurd e (h3 _)
  have rows : ∀ xs : Array Value,SizeOf.sizeOf xs < n -> ∃ us : Array Value,us.size = xs.size /\ (∀ (i : Nat) (u : Value),us[i]? = some u -> Uni u) /\ ∀ (S : FuncId -> Prop) (K R : Pr) (i : Nat) (u x v : Value),us[i]? = some u -> xs[i]? = some x -> VR S K R x v -> VR S K R u v:=λ xs hx => by
   have hex : ∀ x,∃ u,x ∈ xs -> Uni u /\ ∀ (S : FuncId -> Prop) (K R : Pr) (v : Value),VR S K R x v -> VR S K R u v:=λ x => by
    by_cases hm : x ∈ xs
    ·obtain ⟨u,h1,h2,_⟩:=ih x (Nat.lt_trans (Array.sizeOf_lt_of_mem hm) hx)
     exact ⟨u,λ _ => ⟨h1,h2⟩⟩
    ·exact ⟨x,λ h => absurd h hm⟩
   refine ⟨xs.map λ x => (hex x).choose,by simp,λ i u h1 => ?_,λ S K R i u x v h1 h2 h3 => ?_⟩
   ·rw [Array.getElem?_map] at h1
    cases h2 : xs[i]? with
    | none => rw [h2] at h1; cases h1
    | some v =>
     rw [h2] at h1
     simp only [Option.map_some,Option.some.injEq] at h1
     subst h1
     exact ((hex v).choose_spec (Array.mem_of_getElem? h2)).1
   ·rw [Array.getElem?_map,h2] at h1
    simp only [Option.map_some,Option.some.injEq] at h1
    subst h1
    exact ((hex x).choose_spec (Array.mem_of_getElem? h2)).2 S K R v h3
  cases u with
  | bool b => exact ⟨_,.bool b,λ S K R v h => h,λ _ => rfl⟩
  | int k m => exact ⟨_,.int k m,λ S K R v h => h,λ _ => rfl⟩
  | string s => exact ⟨_,.string s,λ S K R v h => h,λ _ => rfl⟩
  | nilFunc => exact ⟨_,.nilFunc,λ S K R v h => h,λ _ => rfl⟩
  | nilIface => exact ⟨_,.nilIface,λ S K R v h => h,λ _ => rfl⟩
  | agg xs =>
   obtain ⟨us,h1,h3,h2⟩:=rows xs (by simp at hu; omega)
   refine ⟨.agg us,.agg h3,λ S K R v h => ?_,pl (λ _ _ h => by cases h) (λ _ h => by cases h) (λ _ h => by cases h)⟩
   cases h with
   | @agg _ xs' e hh =>
    refine .agg (h1.trans e) λ i a b ha hb => ?_
    have hi : i < xs.size:=by rw [e]; exact (Array.getElem?_eq_some_iff.1 hb).1
    exact h2 S K R i a xs[i] b ha (Array.getElem?_eq_getElem hi) (hh i _ _ (Array.getElem?_eq_getElem hi) hb)
  | tuple xs =>
   obtain ⟨us,h1,h3,h2⟩:=rows xs (by simp at hu; omega)
   refine ⟨.tuple us,.tuple h3,λ S K R v h => ?_,pl (λ _ _ h => by cases h) (λ _ h => by cases h) (λ _ h => by cases h)⟩
   cases h with
   | @tuple _ xs' e hh =>
    refine .tuple (h1.trans e) λ i a b ha hb => ?_
    have hi : i < xs.size:=by rw [e]; exact (Array.getElem?_eq_some_iff.1 hb).1
    exact h2 S K R i a xs[i] b ha (Array.getElem?_eq_getElem hi) (hh i _ _ (Array.getElem?_eq_getElem hi) hb)
  | _ => exact ⟨.nilFunc,.nilFunc,λ S K R v h => .junk (by cases h <;> exact True.intro),pl (λ _ _ h => by cases h) (λ _ h => by cases h) (λ _ h => by cases h)⟩
noncomputable def cl (u : Value) : Value:=(clean_ex (SizeOf.sizeOf u + 1) u (Nat.lt_succ_self _)).choose
theorem cl_spec (u : Value) : Uni (cl u) /\ (∀ (S : FuncId -> Prop) (K R : Pr) (v : Value),VR S K R u v -> VR S K R (cl u) v) /\ (plainV u -> cl u = u):=(clean_ex (SizeOf.sizeOf u + 1) u (Nat.lt_succ_self _)).choose_spec
noncomputable def clO : Obj -> Obj
 | .cells c T fz => .cells (c.map cl) T fz
 | o => o
noncomputable def clX (X : Nat -> Bool) (w : World) : World:={ w with heap:=w.heap.mapIdx λ i o => if X i = true then clO o else o }
theorem clX_size (X : Nat -> Bool) (w : World) : (clX X w).heap.size = w.heap.size:=by simp [clX]
section
variable {X : Nat -> Bool} {w : World} {a : Nat}
theorem clX_out (h : X a = false) : (clX X w).heap[a]? = w.heap[a]?:=by
 simp [clX,Array.getElem?_mapIdx,h]
theorem clX_in (h : X a = true) : (clX X w).heap[a]? = (w.heap[a]?).map clO:=by
 simp [clX,Array.getElem?_mapIdx,h]
theorem clX_cells {c : Array Value} {T : TypeId} {fz : Nat × Nat} (h : X a = true) (hc : w.heap[a]? = some (.cells c T fz)) : (clX X w).heap[a]? = some (.cells (c.map cl) T fz):=by
 rw [clX_in h,hc]; rfl
theorem clX_cell {o : Nat} {v : Value} (hv : w.cell? ⟨a,o,none⟩ = some v) (hp : plainV v) : (clX X w).cell? ⟨a,o,none⟩ = some v:=by
 cases e : X a with
 | false =>
  simp only [World.cell?] at hv ⊢
  rw [clX_out e]; exact hv
 | true =>
  cases ho : w.heap[a]? with
  | none => simp [World.cell?,ho] at hv
  | some ob =>
   cases ob with
   | cells c T fz =>
    have h2 : c[o]? = some v:=by
     have : w.cell? ⟨a,o,none⟩ = c[o]?:=by simp [World.cell?,ho]
     rw [<- this]; exact hv
    have h3 : (clX X w).cell? ⟨a,o,none⟩ = (c.map cl)[o]?:=by
     simp only [World.cell?]
     rw [clX_cells e ho]; rfl
    rw [h3,Array.getElem?_map,h2]
    simp only [Option.map_some,Option.some.injEq]
    exact (cl_spec v).2.2 hp
   | _ => simp [World.cell?,ho] at hv
end
section
variable {S : FuncId -> Prop} {K R : Pr} {G : Gp} {St : Nat -> Prop} {X : Nat -> Bool} {w W : World}
theorem clX_rel (h : WRel S K R G St w W) : WRel S K R G St (clX X w) W:=by
 refine ⟨h.inj,h.inj',λ a b x => by rw [clX_size]; exact h.lt a b x,h.low,by rw [clX_size]; exact h.gle,λ a b x => ?_,λ a b x hn => ?_,λ a x => ?_,?_,h.tb⟩
 ·obtain ⟨o,o',h1,h2,h3⟩:=h.cont a b x
  cases e : X a with
  | false => exact ⟨o,o',(clX_out e).trans h1,h2,h3⟩
  | true =>
   refine ⟨clO o,o',by rw [clX_in e,h1]; rfl,h2,?_⟩
   cases h3 with
   | @cells c c' T fz fz' hcc hf =>
    refine .cells ⟨by rw [Array.size_map]; exact hcc.1,λ i u v h4 h5 => ?_⟩ hf
    rw [Array.getElem?_map] at h4
    have hi : i < c.size:=by rw [hcc.1]; exact (Array.getElem?_eq_some_iff.1 h5).1
    rw [Array.getElem?_eq_getElem hi] at h4
    simp only [Option.map_some,Option.some.injEq] at h4
    subst h4
    exact (cl_spec _).2.1 _ _ _ _ (hcc.2 i _ _ (Array.getElem?_eq_getElem hi) h5)
   | map x => exact .map x
   | chan x => exact .chan x
   | stringIter s p => exact .stringIter s p
   | number x => exact .number x
   | mapIter x => exact .mapIter x
 ·have hw:=h.rest a b x hn
  cases e : X a with
  | false => exact (clX_out e).trans hw
  | true => rw [clX_in e,hw]; simp [clO,waste]
 ·obtain ⟨h1,c,T,hi,h2,h3⟩:=h.st a x
  cases e : X a with
  | false => exact ⟨h1,c,T,hi,(clX_out e).trans h2,h3⟩
  | true => exact ⟨h1,c.map cl,T,hi,clX_cells e h2,by rw [Array.size_map]; exact h3⟩
 ·intro a c e hp
  cases ex : X a with
  | false =>
   rw [clX_out ex] at hp
   exact h.np a c e hp
  | true =>
   rw [clX_in ex] at hp
   cases ho : w.heap[a]? with
   | none => rw [ho] at hp; cases hp
   | some ob =>
    rw [ho] at hp
    cases ob with
    | pending c' e' => exact h.np a c' e' ho
    | _ => simp [clO] at hp
end
section
variable {p : Program} {op gs fs : FuncId -> Bool} {St : Nat -> Prop} {W0 : World} {Post : Value -> World -> Prop}
theorem JO.clean (X : Nat -> Bool) {m : Fm} {ms : List Fm} {w : World} (h : JL p op gs fs St W0 Post m ms (clX X w)) : JL p op gs fs St W0 Post m ms w:=
 λ K R W m' ms' Shun a b c d k => h K R W m' ms' Shun (clX_rel a) b c d k
end
end Go.Mt
namespace Go.Proofs.YtkfafknliihabaaDoor
open Go.RowKit Go.Mt Go.Conc Go.Tt
def cleanX (A1 A2 A3 : Option Addr) (b : Nat) : Bool:=xArg A1 b || xArg A2 b || xArg A3 b
theorem slc_clean {X : Nat -> Bool} {w : World} {lo hi s n c : Nat} {A : Option Addr} {xs : List Value} (h : Slc w lo hi s A n c xs) (hp : ∀ v ∈ xs,plainV v) : Slc (clX X w) 0 (clX X w).heap.size s A n c xs:=
 ⟨h.len,h.le,h.cap,λ hn => by
  obtain ⟨b,off,e,e1,e2,e3,e4⟩:=h.at_ hn
  exact ⟨b,off,e,Nat.zero_le _,by rw [clX_size]; exact e3,by rw [clX_size]; exact e3,λ j v hv => clX_cell (e4 j v hv) (hp v (List.mem_of_getElem? hv))⟩⟩
theorem blkU_clean {X : Nat -> Bool} {w : World} {A : Option Addr} (h : ∀ a,A = some a -> ∃ cs T fz,w.heap[a.block]? = some (.cells cs T fz)) (hX : ∀ a,A = some a -> X a.block = true) : BlkU (clX X w) A:=by
 intro x hx
 obtain ⟨cs,T,fz,hc⟩:=h x hx
 refine ⟨_,T,fz,clX_cells (hX x hx) hc,λ v hv => ?_⟩
 obtain ⟨u,_,rfl⟩:=Array.mem_map.1 hv
 exact (cl_spec u).1
theorem tabU_clean {X : Nat -> Bool} {w : World} (h : TabU w) : TabU (clX X w):=by
 intro g hg
 obtain ⟨c,T,fz,hc,hu⟩:=h g hg
 cases e : X g with
 | false => exact ⟨c,T,fz,(clX_out e).trans hc,hu⟩
 | true =>
  refine ⟨_,T,fz,clX_cells e hc,λ v hv => ?_⟩
  obtain ⟨u,_,rfl⟩:=Array.mem_map.1 hv
  exact (cl_spec u).1
theorem cl_ints (zs : List Int) : ((zs.map λ z => Value.int .u64 z).toArray).map cl = (zs.map λ z => Value.int .u64 z).toArray:=by
 apply Array.ext'
 simp only [Array.toList_map,List.map_map]
 exact List.map_congr_left λ z _ => (cl_spec _).2.2 (.inl ⟨_,_,rfl⟩)
theorem tabW_clean {X : Nat -> Bool} {w : World} (h : TabW w) : TabW (clX X w):=by
 have e1 : Tryd.prog.globalNamed "internal/strconv.uint64pow10" = some 0:=by kernel_rfl
 unfold TabW Lib.TabIs at *
 obtain ⟨T,fz,hc⟩:=var_cells e1 h
 unfold World.var?
 rw [e1]
 cases e : X 0 with
 | false =>
  simp only [Option.bind_some,(clX_out e).trans hc]
 | true =>
  simp only [Option.bind_some,clX_cells e hc]
  exact congrArg some (cl_ints _)
theorem code_start {S : FuncId -> Prop} {X : Nat -> Bool} {W : World} {A : Option Addr} {n c : Nat} (hX : ∀ b,X b = true -> ∃ c T fz,W.heap[b]? = some (.cells c T fz)) (h : ∀ a,A = some a -> X a.block = true) (hc : Code W A n c) : Code (gStartX S X W) A n c:=
 ⟨hc.le,hc.cap,λ hn => by
  obtain ⟨b,off,rfl,e3,e4⟩:=hc.at_ hn
  exact ⟨b,off,rfl,by rw [gStartX_size]; exact e3,λ j hj => by obtain ⟨v,h1,h2,h3⟩:=e4 j hj; exact ⟨v,gStartX_cell hX (h _ rfl) h1 (.inl ⟨_,_,rfl⟩),h2,h3⟩⟩⟩
end Go.Proofs.YtkfafknliihabaaDoor
namespace Go.Proofs.YtkfafknliihabaaDoor
open Go.RowKit Go.Mt Go.Conc Go.Tt
noncomputable def rFD0 : Go.Code:=match bodyFD with | .seq a _ => a | _ => .skip
noncomputable def rFD1 : Go.Code:=match bodyFD with | .seq _ (.seq (.seq a _) _) => a | _ => .skip
noncomputable def rFD2 : Go.Code:=match bodyFD with | .seq _ (.seq (.seq _ (.cond _ (.seq a _) _)) _) => a | _ => .skip
noncomputable def rFD3 : Go.Code:=match bodyFD with | .seq _ (.seq _ (.seq a _)) => a | _ => .skip
noncomputable def rFD4 : Go.Code:=match bodyFD with | .seq _ (.seq _ (.seq _ (.seq a _))) => a | _ => .skip
noncomputable def rFD5 : Go.Code:=match bodyFD with | .seq _ (.seq _ (.seq _ (.seq _ (.seq a _)))) => a | _ => .skip
noncomputable def rFD6 : Go.Code:=match bodyFD with | .seq _ (.seq _ (.seq _ (.seq _ (.seq _ (.seq (.seq a _) _))))) => a | _ => .skip
noncomputable def rFD7 : Go.Code:=match bodyFD with | .seq _ (.seq _ (.seq _ (.seq _ (.seq _ (.seq (.seq _ (.cond _ (.seq a _) _)) _))))) => a | _ => .skip
noncomputable def rFD13 : Go.Code:=match bodyFD with | .seq _ (.seq _ (.seq _ (.seq _ (.seq _ (.seq _ (.seq _ (.seq a _))))))) => a | _ => .skip
noncomputable def rFD14 : Go.Code:=match bodyFD with | .seq _ (.seq _ (.seq _ (.seq _ (.seq _ (.seq _ (.seq _ (.seq _ (.seq a _)))))))) => a | _ => .skip
theorem bodyFD_eq : bodyFD = .seq rFD0 (.seq (.seq rFD1 (.cond (.tmp 30) (.seq rFD2 .ret) .skip)) (.seq rFD3 (.seq rFD4 (.seq rFD5 (.seq (.seq rFD6 (.cond (.tmp 61) (.seq rFD7 .ret) .skip)) (.seq lFD (.seq rFD13 (.seq rFD14 tFD)))))))):=rfl
noncomputable def opsFD14 : Array Oper:=match rFD14 with | .region _ ops _ => ops | _ => #[]
theorem rFD14_eq : rFD14 = .region 14 opsFD14 false:=rfl
theorem opsFD14_range : List.range opsFD14.size = [0,1,2,3,4,5,6,7,8,9]:=rfl
abbrev oFD14_0 : Oper:={ dst:=some 110,op:=Go.Op.move (Go.Operand.tmp 12),type:=23,pos := "laws.go:930", after:=#[],guard:=none }
theorem opsFD14_0 : opsFD14[0]? = some oFD14_0:=rfl
abbrev oFD14_1 : Oper:={ dst:=some 111,op:=Go.Op.move (Go.Operand.tmp 13),type:=24,pos := "laws.go:930", after:=#[],guard:=none }
theorem opsFD14_1 : opsFD14[1]? = some oFD14_1:=rfl
abbrev oFD14_2 : Oper:={ dst:=some 112,op:=Go.Op.move (Go.Operand.tmp 14),type:=24,pos := "laws.go:930", after:=#[],guard:=none }
theorem opsFD14_2 : opsFD14[2]? = some oFD14_2:=rfl
abbrev oFD14_3 : Oper:={ dst:=some 113,op:=Go.Op.move (Go.Operand.tmp 15),type:=3,pos := "laws.go:930", after:=#[],guard:=none }
theorem opsFD14_3 : opsFD14[3]? = some oFD14_3:=rfl
abbrev oFD14_4 : Oper:={ dst:=some 114,op:=Go.Op.call { callee:=Go.Callee.value (Go.Operand.func 9),args:=#[Go.Operand.tmp 110,Go.Operand.tmp 111,Go.Operand.tmp 112,Go.Operand.tmp 113],argTypes:=#[23,24,24,3] },type:=28,pos := "laws.go:930", after:=#[{ on:=0,ground:=Go.Ground.data },{ on:=1,ground:=Go.Ground.data },{ on:=2,ground:=Go.Ground.data },{ on:=3,ground:=Go.Ground.data }],guard:=none }
theorem opsFD14_4 : opsFD14[4]? = some oFD14_4:=rfl
abbrev oFD14_5 : Oper:={ dst:=some 109,op:=Go.Op.move (Go.Operand.tmp 114),type:=28,pos := "laws.go:930", after:=#[{ on:=4,ground:=Go.Ground.data }],guard:=none }
theorem opsFD14_5 : opsFD14[5]? = some oFD14_5:=rfl
abbrev oFD14_6 : Oper:={ dst:=some 115,op:=Go.Op.extract (Go.Operand.tmp 109) 0,type:=27,pos := "laws.go:930", after:=#[{ on:=5,ground:=Go.Ground.data }],guard:=none }
theorem opsFD14_6 : opsFD14[6]? = some oFD14_6:=rfl
abbrev oFD14_7 : Oper:={ dst:=some 116,op:=Go.Op.extract (Go.Operand.tmp 109) 1,type:=4,pos := "laws.go:930", after:=#[{ on:=5,ground:=Go.Ground.data },{ on:=8,ground:=Go.Ground.gcOnly Go.Departure.lateStores }],guard:=none }
theorem opsFD14_7 : opsFD14[7]? = some oFD14_7:=rfl
abbrev oFD14_8 : Oper:={ dst:=some 16,op:=Go.Op.assign (Go.Operand.tmp 115),type:=27,pos := "laws.go:930", after:=#[{ on:=6,ground:=Go.Ground.data },{ on:=4,ground:=Go.Ground.chain },{ on:=0,ground:=Go.Ground.phase },{ on:=1,ground:=Go.Ground.phase },{ on:=2,ground:=Go.Ground.phase },{ on:=3,ground:=Go.Ground.phase },{ on:=4,ground:=Go.Ground.phase },{ on:=5,ground:=Go.Ground.phase },{ on:=6,ground:=Go.Ground.phase },{ on:=7,ground:=Go.Ground.textOnly Go.Departure.lateStores }],guard:=none }
theorem opsFD14_8 : opsFD14[8]? = some oFD14_8:=rfl
abbrev oFD14_9 : Oper:={ dst:=some 17,op:=Go.Op.assign (Go.Operand.tmp 116),type:=4,pos := "laws.go:930", after:=#[{ on:=7,ground:=Go.Ground.data },{ on:=8,ground:=Go.Ground.chain },{ on:=0,ground:=Go.Ground.phase },{ on:=1,ground:=Go.Ground.phase },{ on:=2,ground:=Go.Ground.phase },{ on:=3,ground:=Go.Ground.phase },{ on:=4,ground:=Go.Ground.phase },{ on:=5,ground:=Go.Ground.phase },{ on:=6,ground:=Go.Ground.phase },{ on:=7,ground:=Go.Ground.phase },{ on:=8,ground:=Go.Ground.phase }],guard:=none }
theorem opsFD14_9 : opsFD14[9]? = some oFD14_9:=rfl
theorem code_below {w w' : World} {A : Option Addr} {n c : Nat} (h : Code w A n c) (hb : Below w.heap.size w w') : Code w' A n c:=⟨h.le,h.cap,λ h0 => by obtain ⟨b,off,e,h1,h2⟩:=h.at_ h0; exact ⟨b,off,e,Nat.lt_of_lt_of_le h1 hb.size,λ j hj => by obtain ⟨v,hv⟩:=h2 j hj; exact ⟨v,(World.cell?_of_block (hb.block b h1)).trans hv.1,hv.2⟩⟩⟩
section
variable {St : Nat -> Prop} {W0 : World} {Post : Value -> World -> Prop}
set_option maxHeartbeats 8000000 in
set_option maxRecDepth 100000 in
theorem jo_law_FD {w : World} {A A' : Option Addr} {n c n' c' : Nat} (hC : Code w A n c) (hD : Code w A' n' c') (hT : TabW w) (hTU : TabU w) (hP : ∀ (R : Pr) (W : World),Kp W0 R St W -> Post (.bool true) W) :
  JS St W0 Post ⟨5,#[.slice A n c,.slice A' n' c',undef,undef,undef,undef,undef,undef,undef,undef,undef,undef,undef,undef,undef,undef,undef,undef,undef,undef,undef,undef,undef,undef,undef,undef,undef,undef,undef,undef,undef,undef,undef,undef,undef,undef,undef,undef,undef,undef,undef,undef,undef,undef,undef,undef,undef,undef,undef,undef,undef,undef,undef,undef,undef,undef,undef,undef,undef,undef,undef,undef,undef,undef,undef,undef,undef,undef,undef,undef,undef,undef,undef,undef,undef,undef,undef,undef,undef,undef,undef,undef,undef,undef,undef,undef,undef,undef,undef,undef,undef,undef,undef,undef,undef,undef,undef,undef,undef,undef,undef,undef,undef,undef,undef,undef,undef,undef,undef,undef,undef,undef,undef,undef,undef,undef,undef,undef,undef,undef,undef,undef,undef,undef,undef,undef,undef,undef,undef,undef,undef,undef,undef,undef,undef,undef,undef,undef,undef,undef,undef,undef,undef,undef,undef,undef,undef,undef,undef,undef,undef,undef,undef,undef,undef,undef,undef,undef,undef,undef,undef,undef,undef,undef,undef,undef,undef,undef,undef,undef,undef,undef,undef,undef,undef,undef],[.code bodyFD],false⟩ [] w:=by
 have L:=lvF
 have hfo : inL olL 5 = false:=by kernel_rfl
 have hend : ∀ (tmps : Array Value) (td : List Item) (w' : World),tmps.getD 4 undef = .bool true -> JS St W0 Post ⟨5,tmps,td,true⟩ [] w':=by
  intro tmps td w' h6
  refine JO.fin L (t:=4) rfl Tryd.func5 rfl (by kernel_rfl) λ K R W v' hv hk => ?_
  have hv' : VR (SF fsF) K R (tmps.getD 4 undef) v':=hv
  rw [h6] at hv'
  cases hv'
  exact hP R W hk
 rw [bodyFD_eq]
 refine JO.seq L hfo ?_
 refine JO.pieceQ L (by kernel_rfl) hfo (λ Tp Q HQ => ?_)
 simp only [rFD0,bodyFD,Tryd.f5,Option.getD_some]
 replace hC : Code (Tt.tp w Tp 0) A n c:=⟨hC.le,hC.cap,hC.at_⟩
 replace hD : Code (Tt.tp w Tp 0) A' n' c':=⟨hD.le,hD.cap,hD.at_⟩
 replace hT : TabW (Tt.tp w Tp 0):=tabIs_heap rfl hT
 replace hTU : TabU (Tt.tp w Tp 0):=hTU
 generalize Tt.tp w Tp 0 = w1 at hC hD hT hTU ⊢
 go_wp2
 refine HQ.out _ _ ?_
 clear HQ
 refine JO.seq L hfo ?_
 refine JO.seq L hfo ?_
 have hcl:=hC.le
 have hcm:=hC.cap
 unfold maxLen at hcm
 have hcl':=hD.le
 have hcm':=hD.cap
 unfold maxLen at hcm'
 by_cases hbig : (1048576 : Int) < (n : Int) \/ (1048576 : Int) < (n' : Int)
 ·have hdone : ∀ (tmps : Array Value) (w' : World),4 < tmps.size -> (Go.Act.mk tmps []).eval (.tmp 30) = .bool true -> JS St W0 Post ⟨5,tmps,[.code (.cond (.tmp 30) (.seq rFD2 .ret) .skip),.code (.seq rFD3 (.seq rFD4 (.seq rFD5 (.seq (.seq rFD6 (.cond (.tmp 61) (.seq rFD7 .ret) .skip)) (.seq lFD (.seq rFD13 (.seq rFD14 tFD)))))))],false⟩ [] w':=by
   intro tmps w' hz he
   refine JO.cond L (t:=true) hfo he ?_
   refine JO.seq L hfo ?_
   refine JO.pieceQ L (by kernel_rfl) hfo (λ Tp Q HQ => ?_)
   simp only [rFD2,bodyFD,Tryd.f5,Option.getD_some]
   go_wp2
   refine HQ.out _ _ ?_
   refine JO.ret L hfo ?_
   exact hend _ _ _ (by simp [hz])
  rcases hbig with hbig | hbig
  ·refine JO.pieceQ L (by kernel_rfl) hfo (λ Tp Q HQ => ?_)
   simp only [rFD1,bodyFD,Tryd.f5,Option.getD_some]
   replace hC : Code (Tt.tp w1 Tp 0) A n c:=⟨hC.le,hC.cap,hC.at_⟩
   replace hD : Code (Tt.tp w1 Tp 0) A' n' c':=⟨hD.le,hD.cap,hD.at_⟩
   replace hT : TabW (Tt.tp w1 Tp 0):=tabIs_heap rfl hT
   replace hTU : TabU (Tt.tp w1 Tp 0):=hTU
   generalize Tt.tp w1 Tp 0 = w2 at hC hD hT hTU ⊢
   go_wp2
   refine HQ.out _ _ ?_
   exact hdone _ _ (by simp) rfl
  ·by_cases hbn : (1048576 : Int) < (n : Int)
   ·refine JO.pieceQ L (by kernel_rfl) hfo (λ Tp Q HQ => ?_)
    simp only [rFD1,bodyFD,Tryd.f5,Option.getD_some]
    replace hC : Code (Tt.tp w1 Tp 0) A n c:=⟨hC.le,hC.cap,hC.at_⟩
    replace hD : Code (Tt.tp w1 Tp 0) A' n' c':=⟨hD.le,hD.cap,hD.at_⟩
    replace hT : TabW (Tt.tp w1 Tp 0):=tabIs_heap rfl hT
    replace hTU : TabU (Tt.tp w1 Tp 0):=hTU
    generalize Tt.tp w1 Tp 0 = w2 at hC hD hT hTU ⊢
    go_wp2
    refine HQ.out _ _ ?_
    exact hdone _ _ (by simp) rfl
   ·refine JO.pieceQ L (by kernel_rfl) hfo (λ Tp Q HQ => ?_)
    simp only [rFD1,bodyFD,Tryd.f5,Option.getD_some]
    replace hC : Code (Tt.tp w1 Tp 0) A n c:=⟨hC.le,hC.cap,hC.at_⟩
    replace hD : Code (Tt.tp w1 Tp 0) A' n' c':=⟨hD.le,hD.cap,hD.at_⟩
    replace hT : TabW (Tt.tp w1 Tp 0):=tabIs_heap rfl hT
    replace hTU : TabU (Tt.tp w1 Tp 0):=hTU
    generalize Tt.tp w1 Tp 0 = w2 at hC hD hT hTU ⊢
    go_wp2
    refine HQ.out _ _ ?_
    exact hdone _ _ (by simp) rfl
 have hb1 : ¬ (1048576 : Int) < (n : Int):=λ h => hbig (.inl h)
 have hb2 : ¬ (1048576 : Int) < (n' : Int):=λ h => hbig (.inr h)
 clear hbig
 refine JO.pieceQ L (by kernel_rfl) hfo (λ Tp Q HQ => ?_)
 simp only [rFD1,bodyFD,Tryd.f5,Option.getD_some]
 replace hC : Code (Tt.tp w1 Tp 0) A n c:=⟨hC.le,hC.cap,hC.at_⟩
 replace hD : Code (Tt.tp w1 Tp 0) A' n' c':=⟨hD.le,hD.cap,hD.at_⟩
 replace hT : TabW (Tt.tp w1 Tp 0):=tabIs_heap rfl hT
 replace hTU : TabU (Tt.tp w1 Tp 0):=hTU
 generalize Tt.tp w1 Tp 0 = w2 at hC hD hT hTU ⊢
 go_wp2
 refine HQ.out _ _ ?_
 clear HQ hb1 hb2
 refine JO.cond L (t:=false) hfo rfl ?_
 refine JO.skip L hfo ?_
 refine JO.seq L hfo ?_
 refine JO.pieceQ L (by kernel_rfl) hfo (λ Tp Q HQ => ?_)
 simp only [rFD3,bodyFD,Tryd.f5,Option.getD_some]
 replace hC : Code (Tt.tp w2 Tp 0) A n c:=⟨hC.le,hC.cap,hC.at_⟩
 replace hD : Code (Tt.tp w2 Tp 0) A' n' c':=⟨hD.le,hD.cap,hD.at_⟩
 replace hT : TabW (Tt.tp w2 Tp 0):=tabIs_heap rfl hT
 replace hTU : TabU (Tt.tp w2 Tp 0):=hTU
 generalize Tt.tp w2 Tp 0 = w3 at hC hD hT hTU ⊢
 go_wp2_with fail
 refine (DrawDeedsServed_any A n c _ hC).mono ?_
 rintro e w4 ⟨A5,n5,c5,ts5,A6,n6,c6,ss,rfl,k1,k2,hn5,hn6,b4⟩
 have B4 : Bl w3.heap.size w3 w4:=⟨b4.size,b4.block⟩
 replace hT:=hT.bls B4 (Nat.le_refl _)
 replace hTU:=hTU.bls B4 (Nat.le_refl _)
 replace hD:=code_below hD b4
 clear B4 b4 hC hcl hcm
 go_wp2
 refine HQ.out _ _ ?_
 clear HQ
 refine JO.seq L hfo ?_
 refine JO.pieceQ L (by kernel_rfl) hfo (λ Tp Q HQ => ?_)
 simp only [rFD4,bodyFD,Tryd.f5,Option.getD_some]
 replace hD : Code (Tt.tp w4 Tp 0) A' n' c':=⟨hD.le,hD.cap,hD.at_⟩
 replace hT : TabW (Tt.tp w4 Tp 0):=tabIs_heap rfl hT
 replace hTU : TabU (Tt.tp w4 Tp 0):=hTU
 replace k1:=k1.tp Tp 0
 replace k2:=k2.tp Tp 0
 generalize Tt.tp w4 Tp 0 = w4b at hD hT hTU k1 k2 ⊢
 go_wp2_with fail
 refine (impl_DeedsServed _ _ _ _ _ _ _ _ _ _ ts5 ss _ k1 k2 (by omega) (by omega)).mono ?_
 rintro e w5 ⟨A7,n7,c7,rfl,o7,b5⟩
 have k7:=o7.slc
 clear o7
 have B5 : Bl w4b.heap.size w4b w5:=⟨b5.size,b5.block⟩
 replace hT:=hT.bls B5 (Nat.le_refl _)
 replace hTU:=hTU.bls B5 (Nat.le_refl _)
 replace k1:=k1.below b5
 replace k2:=k2.below b5
 replace hD:=code_below hD b5
 clear B5 b5
 go_wp2
 refine HQ.out _ _ ?_
 clear HQ
 refine JO.seq L hfo ?_
 refine JO.pieceQ L (by kernel_rfl) hfo (λ Tp Q HQ => ?_)
 simp only [rFD5,bodyFD,Tryd.f5,Option.getD_some]
 replace hD : Code (Tt.tp w5 Tp 0) A' n' c':=⟨hD.le,hD.cap,hD.at_⟩
 replace hT : TabW (Tt.tp w5 Tp 0):=tabIs_heap rfl hT
 replace hTU : TabU (Tt.tp w5 Tp 0):=hTU
 replace k1:=k1.tp Tp 0
 replace k2:=k2.tp Tp 0
 replace k7:=k7.tp Tp 0
 generalize Tt.tp w5 Tp 0 = w5b at hD hT hTU k1 k2 k7 ⊢
 go_wp2_with fail
 refine (spec_DeedsServed _ _ _ _ _ _ _ _ _ _ ts5 ss _ k1 k2 (by omega) (by omega)).mono ?_
 rintro e w6 ⟨A9,n9,c9,rfl,o9,b6⟩
 have k9:=o9.slc
 clear o9
 have B6 : Bl w5b.heap.size w5b w6:=⟨b6.size,b6.block⟩
 replace hT:=hT.bls B6 (Nat.le_refl _)
 replace hTU:=hTU.bls B6 (Nat.le_refl _)
 replace k1:=k1.below b6
 replace k2:=k2.below b6
 replace k7:=k7.below b6
 replace hD:=code_below hD b6
 clear B6 b6
 have hl7:=k7.deedLen
 have hl9:=k9.deedLen
 obtain rfl : n7 = n9:=by rw [<- hl7,<- hl9]
 clear hl9
 go_wp2
 refine HQ.out _ _ ?_
 clear HQ
 refine JO.seq L hfo ?_
 refine JO.seq L hfo ?_
 cases hall : ss.all (okSv ts5) with
 | false =>
  have hdd : deedsSF ts5 ss = ([],false):=by unfold deedsSF; rw [hall]; rfl
  rw [hdd]
  clear k1 k2 k7 k9
  refine JO.pieceQ L (by kernel_rfl) hfo (λ Tp Q HQ => ?_)
  simp only [rFD6,bodyFD,Tryd.f5,Option.getD_some]
  go_wp2
  refine HQ.out _ _ ?_
  refine JO.cond L (t:=true) hfo rfl ?_
  refine JO.seq L hfo ?_
  clear HQ
  refine JO.pieceQ L (by kernel_rfl) hfo (λ Tp Q HQ => ?_)
  simp only [rFD7,bodyFD,Tryd.f5,Option.getD_some]
  go_wp2
  refine HQ.out _ _ ?_
  refine JO.ret L hfo ?_
  exact hend _ _ _ (by simp)
 | true =>
 have hdd : deedsSF ts5 ss = (ss.map (svDeed ts5),true):=by unfold deedsSF; rw [hall]; rfl
 rw [hdd] at k7 k9 hl7
 rw [hdd]
 have hok : ∀ j s,j < ss.length -> ss[j]? = some s -> okSv ts5 s = true:=λ j s _ e => List.all_eq_true.1 hall s (List.mem_of_getElem? e)
 have hl2:=k2.srvsLen
 obtain rfl : n7 = n6:=by rw [<- hl7,<- hl2]; simp
 clear hdd hall hl7 hl2
 refine JO.pieceQ L (by kernel_rfl) hfo (λ Tp Q HQ => ?_)
 simp only [rFD6,bodyFD,Tryd.f5,Option.getD_some]
 replace hD : Code (Tt.tp w6 Tp 0) A' n' c':=⟨hD.le,hD.cap,hD.at_⟩
 replace hT : TabW (Tt.tp w6 Tp 0):=tabIs_heap rfl hT
 replace hTU : TabU (Tt.tp w6 Tp 0):=hTU
 replace k1:=k1.tp Tp 0
 replace k2:=k2.tp Tp 0
 replace k7:=k7.tp Tp 0
 replace k9:=k9.tp Tp 0
 generalize Tt.tp w6 Tp 0 = w6b at hD hT hTU k1 k2 k7 k9 ⊢
 go_wp2
 refine HQ.out _ _ ?_
 clear HQ
 refine JO.cond L (t:=false) hfo rfl ?_
 refine JO.skip L hfo ?_
 refine JO.seq L hfo ?_
 refine JO.pieceQ L (by kernel_rfl) hfo (λ Tp Q HQ => ?_)
 replace hD : Code (Tt.tp w6b Tp 0) A' n' c':=⟨hD.le,hD.cap,hD.at_⟩
 replace hT : TabW (Tt.tp w6b Tp 0):=tabIs_heap rfl hT
 replace hTU : TabU (Tt.tp w6b Tp 0):=hTU
 replace k1:=k1.tp Tp 0
 replace k2:=k2.tp Tp 0
 replace k7:=k7.tp Tp 0
 replace k9:=k9.tp Tp 0
 generalize Tt.tp w6b Tp 0 = w7 at hD hT hTU k1 k2 k7 k9 ⊢
 refine wpFDl k1 k2 k7 k9 hn5 hn6 hok (Lib.hid λ x4 x11 x72 x73 x74 x75 x76 x77 x78 x79 x80 x81 x82 x83 x84 x85 x86 x87 x88 x89 x90 x91 x92 x93 x94 x95 x96 x97 x98 x99 x100 x101 w7b b7 => HQ.out _ _ ?_)
 have B7 : Bl w7.heap.size w7 w7b:=⟨b7.size,b7.block⟩
 replace hT:=hT.bls B7 (Nat.le_refl _)
 replace hTU:=hTU.bls B7 (Nat.le_refl _)
 replace hD:=code_below hD b7
 clear B7 b7 k1 k2 k7 k9 hok HQ
 refine JO.seq L hfo ?_
 refine JO.pieceQ L (by kernel_rfl) hfo (λ Tp Q HQ => ?_)
 simp only [rFD13,bodyFD,Tryd.f5,Option.getD_some]
 replace hD : Code (Tt.tp w7b Tp 0) A' n' c':=⟨hD.le,hD.cap,hD.at_⟩
 replace hT : TabW (Tt.tp w7b Tp 0):=tabIs_heap rfl hT
 replace hTU : TabU (Tt.tp w7b Tp 0):=hTU
 generalize Tt.tp w7b Tp 0 = w8 at hD hT hTU ⊢
 go_wp2_with fail
 refine (DrawServeFirst_any A' n' c' _ hD).mono ?_
 rintro e w8b ⟨A1,n1,c1,rooms,A2,n2,c2,ds,A3,n3,c3,ts,tn,rfl,o1,o2,o3,hn1,hn2,hn3,b8⟩
 have B8 : Bl w8.heap.size w8 w8b:=⟨b8.size,b8.block⟩
 replace hT:=hT.bls B8 (Nat.le_refl _)
 replace hTU:=hTU.bls B8 (Nat.le_refl _)
 clear B8 b8 hD
 go_wp2
 refine HQ.out _ _ ?_
 clear HQ
 refine JO.clean (cleanX A1 A2 A3) ?_
 replace hT:=tabW_clean (X:=cleanX A1 A2 A3) hT
 replace hTU:=tabU_clean (X:=cleanX A1 A2 A3) hTU
 have h1:=slc_clean (X:=cleanX A1 A2 A3) o1.slc ints_plain
 have h2:=slc_clean (X:=cleanX A1 A2 A3) o2.slc deeds_plain
 have h3:=slc_clean (X:=cleanX A1 A2 A3) o3.slc deeds_plain
 have hU1:=blkU_clean (X:=cleanX A1 A2 A3) (λ a e => (o1.blk0 a e).2.2.2) (λ a e => by simp [cleanX,xArg,e])
 have hU2:=blkU_clean (X:=cleanX A1 A2 A3) (λ a e => (o2.blk0 a e).2.2.2) (λ a e => by simp [cleanX,xArg,e])
 have hU3:=blkU_clean (X:=cleanX A1 A2 A3) (λ a e => (o3.blk0 a e).2.2.2) (λ a e => by simp [cleanX,xArg,e])
 clear o1 o2 o3
 generalize clX (cleanX A1 A2 A3) w8b = w9 at *
 refine JO.seq L hfo ?_
 generalize hk0 : ([Item.code _] : List Item) = K0
 rw [rFD14_eq]
 refine JO.reg L hfo ?_
 rw [opsFD14_range]
 refine JO.opv L (v:=.slice A1 n1 c1) hfo opsFD14_0 rfl (λ T e => rfl) ?_
 simp only [Go.Act.put,List.setIfInBounds_toArray,List.set_cons_zero,List.set_cons_succ]
 refine JO.opv L (v:=.slice A2 n2 c2) hfo opsFD14_1 rfl (λ T e => rfl) ?_
 simp only [Go.Act.put,List.setIfInBounds_toArray,List.set_cons_zero,List.set_cons_succ]
 refine JO.opv L (v:=.slice A3 n3 c3) hfo opsFD14_2 rfl (λ T e => rfl) ?_
 simp only [Go.Act.put,List.setIfInBounds_toArray,List.set_cons_zero,List.set_cons_succ]
 refine JO.opv L (v:=.int .i64 tn) hfo opsFD14_3 rfl (λ T e => rfl) ?_
 simp only [Go.Act.put,List.setIfInBounds_toArray,List.set_cons_zero,List.set_cons_succ]
 refine jo_first (ops:=opsFD14) (i:=4) (o:=oFD14_4) (A1:=A1) (A2:=A2) (A3:=A3) (rooms:=rooms) (ds:=ds) (ts:=ts) (tn:=tn) rfl hfo rfl opsFD14_4 rfl rfl (by simp [Fm.eval]) h1 h2 h3 (by omega) (by omega) (by omega) hT hTU hU1 hU2 hU3 (λ w10 GA Gn Gc b10 G => ?_)
 have s10:=b10.size
 replace h1:=h1.bls b10 (Nat.le_refl _)
 replace h2:=h2.bls b10 (Nat.le_refl _)
 replace h3:=h3.bls b10 (Nat.le_refl _)
 replace hT:=hT.bls b10 (Nat.le_refl _)
 clear hU1 hU2 hU3 hTU
 simp only [Fm.fin,opsFD14_4,Option.bind_some,List.setIfInBounds_toArray,List.set_cons_zero,List.set_cons_succ]
 refine JO.opv L (v:=.tuple #[.slice GA Gn Gc,.bool (servedF rooms ds ts tn false).2]) hfo opsFD14_5 rfl (λ T e => rfl) ?_
 simp only [Go.Act.put,List.setIfInBounds_toArray,List.set_cons_zero,List.set_cons_succ]
 refine JO.opv L (v:=.slice GA Gn Gc) hfo opsFD14_6 rfl (λ T e => rfl) ?_
 simp only [Go.Act.put,List.setIfInBounds_toArray,List.set_cons_zero,List.set_cons_succ]
 refine JO.opv L (v:=.bool (servedF rooms ds ts tn false).2) hfo opsFD14_7 rfl (λ T e => rfl) ?_
 simp only [Go.Act.put,List.setIfInBounds_toArray,List.set_cons_zero,List.set_cons_succ]
 refine JO.opv L (v:=.slice GA Gn Gc) hfo opsFD14_8 rfl (λ T e => rfl) ?_
 simp only [Go.Act.put,List.setIfInBounds_toArray,List.set_cons_zero,List.set_cons_succ]
 refine JO.opv L (v:=.bool (servedF rooms ds ts tn false).2) hfo opsFD14_9 rfl (λ T e => rfl) ?_
 simp only [Go.Act.put,List.setIfInBounds_toArray,List.set_cons_zero,List.set_cons_succ]
 refine JO.regEnd L hfo ?_
 subst hk0
 refine JO.tailQ L (by kernel_rfl) hfo (λ Tp Q HQ => ?_)
 have h1':=h1.tp Tp 0
 have h2':=h2.tp Tp 0
 have h3':=h3.tp Tp 0
 have hT' : TabW (Tt.tp w10 Tp 0):=tabIs_heap rfl hT
 have G':=G.slc.tp Tp 0
 exact wpFD h1' h2' h3' hn1 hn2 hn3 hn6 hT' G' rfl (Lib.hid λ a' w' h2 => HQ.out _ _ λ todo => hend _ _ _ h2)
end
end Go.Proofs.YtkfafknliihabaaDoor
namespace Go.Proofs.YtkfafknliihabaaDoor
theorem holds_tied_goes (Lk : Looks) {p : Pinned} {s : OpenSpec} {c : OpenClaim} (kinds : List LaidKind) (tests : Bool) (har : Bool × String) (lk : Bool)
  (hc : c.holds p s) (hw : c.wfByText s = true) (htie : c.laidByTextAt Lk p kinds tests)
  (hst : c.start = .entering) (hnb : c.noBlocks = false /\ c.again = false) (hm : p.checked.prog.mainIs = some (har.1,har.2.toList)) (hn : (!har.1 && har.2.isEmpty && !lk) = false)
  (hl : ∀ f fn,p.checked.prog.funcNamed c.func = some f -> p.checked.prog.funcs[f]? = some fn -> lk = p.checked.prog.looks [] /\ ∀ (j : Nat) t,fn.params[j]? = some t -> p.checked.prog.wantsStandIn t = false)
  (hg : true = c.goesBy p.checked.prog) :
  Claim7.holds p (.plain s) { stood:={ row:=c,standIns:=[],harness:=har,looks:=lk },kinds:=[],alts:=[],goes:=true,laidByText:=true,laidKinds:=kinds,laidTests:=tests,laidLooks:=Lk }:=by
 have h6 : ∀ r : OpenClaim,Claim7.isSixth { stood:={ row:=r,standIns:=[],harness:=har,looks:=lk },kinds:=[] } = false:=λ r => by simpa [Claim7.isSixth] using hn
 have h:=Claim7.tied_new_at Lk kinds tests (Claim7.new_of_sixth hc har lk hst hnb hm (h6 c) hl) hw
 exact ⟨h,(λ D hD => by cases hD),htie,(λ h => by cases h),hg⟩
end Go.Proofs.YtkfafknliihabaaDoor
