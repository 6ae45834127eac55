/-
 Part 10 of what stands behind the last text.
-/
import Derived.ProofKit
import Derived.LaidMore
import Derived.Stop.Joined
import Derived.Test.YtkfafknliihabaaDoorRows
import Derived.Test.YtkfafknliihabaaDoorCards
import Derived.JoinedOf
import Derived.KernelRfl
import Derived.OwnWalk
import Derived.Maps.AppendAt
import Derived.Test.YtkfafknliihabaaDoorDdsPq9
set_option linter.unusedSectionVars false
set_option linter.unusedSimpArgs false
set_option linter.unusedVariables false
namespace Go.Proofs.YtkfafknliihabaaDoor
open Go.RowKit Go.Mt Go.Conc Go.Tt Go.Conc.Lib Go.ConcR.Gen
theorem info_served : (Tryd.prog.info? 31).map (λ i => (i.zero,i.size,i.bytes)) = some (some (.agg #[.int .i64 0,.string ⟨#[]⟩]),2,24):=by kernel_rfl
theorem svals_snoc (l : List (Nat × List UInt8)) (p : Nat × List UInt8) : svals (l ++ [p]) = svals l ++ [.int .i64 p.1,.string ⟨p.2.toArray⟩]:=by simp [svals]
theorem take_snoc {α : Type} {l : List α} {k : Nat} {a : α} (h : l[k]? = some a) : l.take (k + 1) = l.take k ++ [a]:=by
 rw [List.take_add_one,h]; rfl
section
variable {Q : Exit -> Go.Act -> World -> Prop} {u0 u1 u2 u3 u4 u5 u6 u7 u8 u9 u10 u11 u12 u13 u14 u15 u16 u17 u18 u19 u20 u21 u22 u23 u24 u25 u26 u27 u28 u29 u30 u31 u32 u33 u34 u35 u36 u37 u38 u39 u40 u41 u42 : Value} {w : World}
set_option maxHeartbeats 2000000 in
theorem wpSM11 {base : Nat} {wb : World} {sv : List (Nat × List UInt8)} {k g cO Np : Nat} {p : Nat × List UInt8} (hI : SvI base wb sv k g cO w) (hp : sv[k]? = some p) (hk : k <= 40) (hbw : base <= wb.heap.size) (hc : w.heap[Np]? = some (.cells #[.int .i64 p.1,.string ⟨p.2.toArray⟩] 31))
  (h : ∀ w' g2 c2 u37 u38 u39 u40,SvI base wb sv (k + 1) g2 c2 w' -> Q .normal ⟨#[u0,u1,u2,u3,u4,u5,u6,u7,u8,u9,u10,u11,u12,u13,.slice (some ⟨g2,0,none⟩) (k + 1) c2,.pointer (some ⟨Np,0,none⟩),u16,u17,u18,u19,u20,u21,u22,u23,u24,u25,u26,u27,u28,u29,u30,u31,u32,u33,u34,u35,u36,u37,u38,u39,u40,u41,u42],[]⟩ w') :
  Code.wp Tryd.prog rSM11 Q ⟨#[u0,u1,u2,u3,u4,u5,u6,u7,u8,u9,u10,u11,u12,u13,.slice (some ⟨g,0,none⟩) k cO,.pointer (some ⟨Np,0,none⟩),u16,u17,u18,u19,u20,u21,u22,u23,u24,u25,u26,u27,u28,u29,u30,u31,u32,u33,u34,u35,u36,u37,u38,u39,u40,u41,u42],[]⟩ w:=by
 have e0:=blk_cell hc 0
 have e1:=blk_cell hc 1
 have zb:=hI.below.size
 have HI:=Go.Lib.hid hI
 have HP:=Go.Lib.hid hp
 obtain ⟨i0,hi0,hz0,hz1,hz2⟩:=info_parts info_served
 have HH:=Go.Lib.hid hi0
 clear hI hp hc hi0
 simp only [rSM11,loopSM,tailSM,bodySM,Tryd.f33,Option.getD_some]
 go_wp2_with (at_builtin; refine wpList_append_lies _ rfl (.tmp 37) (.tmp 39) 27 rfl base 31 i0 (.agg #[.int .i64 0,.string ⟨#[]⟩]) 2 24 Tryd.underlying27 HH.out hz0 hz1 hz2 rfl (by decide) (.slice (some ⟨g,0,none⟩) k cO) k _ rfl (row_below' HI.out.own (below_al (Below.refl _ _) _)) ⟨_,0,none⟩ 1 1 [.int .i64 p.1,.string ⟨p.2.toArray⟩] rfl rfl (World.news_of_block (cs:=#[.int .i64 p.1,.string ⟨p.2.toArray⟩]) (heap_alloc_new _ _)) (by simp [Value.oneCell']) (by decide) (by unfold maxLen; omega) (by omega) (by simp; omega) _ rfl ?_; intro g2 c2n w8 hown2 hgr2 hat2 hlt2; have HR8:=Go.Lib.hid (And.intro hown2 hgr2); clear hown2 hgr2 hat2)
 have B1 : Below base wb (w.alloc (.cells #[.int .i64 p.1,.string ⟨p.2.toArray⟩] 31)):=HI.out.below.trans ((below_al (Below.refl _ _) _).mono (by omega))
 refine ⟨?_,B1.trans (row_below (row_below' HI.out.own (below_al (Below.refl _ _) (.cells #[.int .i64 p.1,.string ⟨p.2.toArray⟩] 31))) HR8.out.2 (by simp; omega))⟩
 rw [take_snoc HP.out,svals_snoc]; exact HR8.out.1
end
section
variable {sv : List (Nat × List UInt8)} {c gc gv base : Nat} {wb : World}
structure SvT (base : Nat) (wb : World) (sv : List (Nat × List UInt8)) (k g cO : Nat) (w : World) : Prop where
 own : w.ownsRow base 31 2 (.slice (some ⟨g,0,none⟩) k cO) k (svals (sv.take k))
 size : wb.heap.size <= w.heap.size
 block : ∀ b,b < base -> w.heap[b]? = wb.heap[b]?
theorem SvT.tp {k g cO : Nat} {w : World} (h : SvT base wb sv k g cO w) (T : Tape) (e : Nat) : SvT base wb sv k g cO (Tt.tp w T e):=⟨h.own,h.size,h.block⟩
theorem SvT.i {k g cO : Nat} {w : World} (h : SvT base wb sv k g cO w) : SvI base { wb with os:=w.os,tape:=w.tape,output:=w.output } sv k g cO w:=⟨h.own,rfl,rfl,rfl,h.size,h.block⟩
theorem SvI.t {k g cO : Nat} {w w' : World} (h : SvI base { wb with os:=w.os,tape:=w.tape,output:=w.output } sv k g cO w') : SvT base wb sv k g cO w':=⟨h.own,h.below.size,h.below.block⟩
theorem SvT.al {k g cO : Nat} {w : World} (h : SvT base wb sv k g cO w) (hb : base <= wb.heap.size) (o : Obj) : SvT base wb sv k g cO (w.alloc o):=
 ⟨row_below' h.own (below_al (Below.refl _ _) _),Nat.le_trans h.size (by simp),λ b hb' => (Below.heap_alloc w o b (by have:=h.size; omega)).trans (h.block b hb')⟩
set_option maxHeartbeats 4000000 in
set_option maxRecDepth 100000 in
theorem serve_loop (C : Cx PpL) (hal : C.alone = none) (hp : C.p = Tryd.prog) (hgs : C.gs = gsF) (hfs : C.fs = fsF) (hA : C.A = pipe c sv.length (srvVal sv)) (hS : C.S = [13]) (hI : IOk C) (hK : C.K gc c) (hb : base <= wb.heap.size) (h40 : sv.length <= 40)
  (hwait : ∀ u0 u1 u2 u3 u4 u5 u6 u7 u8 u9 u10 u11 u12 u13 u15 u16 u17 u18 u19 u20 u21 u22 u23 u24 u25 u26 u27 u28 u29 u30 u31 u32 u33 u34 u35 u36 u37 u38 u39 u40 u41 u42 w g cO,SvT base wb sv sv.length g cO w -> BO C .wt ⟨33,#[u0,u1,u2,u3,u4,u5,u6,u7,u8,u9,u10,u11,u12,u13,.slice (some ⟨g,0,none⟩) sv.length cO,u15,u16,u17,u18,u19,u20,u21,u22,u23,u24,u25,u26,u27,u28,u29,u30,u31,u32,u33,u34,u35,u36,u37,u38,u39,u40,u41,u42],[.code (.seq rSM12 (.seq rSM13 .ret))],false⟩ w) :
  ∀ (m k : Nat),k + m = sv.length -> ∀ (w : World) (g cO : Nat) (u0 u1 u2 u3 u4 u5 u6 u7 u8 u9 u10 u11 u12 u13 u15 u16 u17 u18 u19 u20 u21 u22 u23 u24 u25 u26 u27 u28 u29 u30 u31 u32 u34 u35 u36 u37 u38 u39 u40 u41 u42 : Value),SvT base wb sv k g cO w ->
   BO C (.rv k) ⟨33,#[u0,u1,u2,u3,u4,u5,u6,u7,u8,u9,u10,u11,u12,u13,.slice (some ⟨g,0,none⟩) k cO,u15,u16,u17,u18,u19,u20,u21,u22,u23,u24,u25,u26,u27,u28,u29,u30,u31,u32,.chan (some gc),u34,u35,u36,u37,u38,u39,u40,u41,u42],[.code loopSM,.inLoop loopSM,.inBlock 0,.code (.seq rSM12 (.seq rSM13 .ret))],false⟩ w:=by
 have F : Fit3 C.P C.fs:=by unfold Cx.P; rw [hp,hgs,hfs]; exact fitF
 have fok : FnOk C.p 33:=⟨_,by rw [hp]; exact Tryd.func33,.inr (.inr (.inl ⟨_,_,rfl⟩))⟩
 have hz0 : (Tryd.prog.info? 31).map (λ i => i.zero) = some (some (sval (0,[]))):=by kernel_rfl
 obtain ⟨ie,hie,hz⟩:=Option.map_eq_some_iff.1 hz0
 have hie' : C.p.info? 31 = some ie:=by rw [hp]; exact hie
 have hct : C.p.underlying 85 = some (.chan .both 31):=by rw [hp]; exact Tryd.underlying85
 have ext : ∀ (a b : Value) (W : World),(Instr.extract (.tuple #[a,b]) 1).run Tryd.prog W = .ok b W:=λ a b W => by simp [Instr.extract,go_sem]
 intro m
 induction m with
 | zero =>
  intro k hk w g cO u0 u1 u2 u3 u4 u5 u6 u7 u8 u9 u10 u11 u12 u13 u15 u16 u17 u18 u19 u20 u21 u22 u23 u24 u25 u26 u27 u28 u29 u30 u31 u32 u34 u35 u36 u37 u38 u39 u40 u41 u42 hw
  obtain rfl : k = sv.length:=by omega
  rw [show Item.code loopSM = Item.code (.seq rSM9 (.seq (.cond (.tmp 35) .skip (.exit 0)) (.block 1 (.seq rSM10 rSM11)))) from congrArg _ loopSM_eq]
  refine BO.seq hI ?_
  generalize hk0 : (Item.code (.seq (.cond (.tmp 35) .skip (.exit 0)) (.block 1 (.seq rSM10 rSM11))) :: Item.inLoop loopSM :: Item.inBlock 0 :: [Item.code (.seq rSM12 (.seq rSM13 .ret))]) = K0
  simp only [rSM9,loopSM,tailSM,bodySM,Tryd.f33,Option.getD_some]
  refine BO.regs hI [0,1] rfl ?_
  have hact : C.A.act (.rv sv.length) = .recv c (λ v => sv.length < sv.length /\ v = srvVal sv sv.length) (λ _ => .rv (sv.length + 1)) .wt:=by rw [hA]; rfl
  refine BO.recv hal hI (o:=_) (g:=gc) rfl rfl rfl hct hie' hz (λ R => sval_self _) rfl rfl hK (by intro s hs; rw [hS]; cases hs; decide) hact (λ v hv => absurd hv.1 (Nat.lt_irrefl _)) (λ _ => ?_)
  refine BO.op F hI (o:=_) rfl rfl (by rw [hp,hfs,hgs]; kernel_rfl) (by intro s hs; rw [hS]; cases hs; decide) (λ T => ⟨.bool false,Tt.tp w T 0,.inl ?_,?_⟩)
  ·rw [hp]
   have:=ext (sval (0,[])) (.bool false) (Tt.tp w T 0)
   show Sem.run _ (Sem.bind (Instr.extract (.tuple #[sval (0,[]),.bool false]) 1) (λ v => Sem.pure (Next.value v))) _ = _
   rw [Sem.run_bind',this]; rfl
  refine BO.regEnd hI ?_
  subst hk0
  refine BO.seq hI ?_
  refine BO.cond hI (t:=false) rfl rfl ?_
  refine BO.exit hI (k':=[.code (.seq rSM12 (.seq rSM13 .ret))]) rfl ?_
  exact hwait _ _ _ _ _ _ _ _ _ _ _ _ _ _ _ _ _ _ _ _ _ _ _ _ _ _ _ _ _ _ _ _ _ _ _ _ _ _ _ _ _ _ _ _ _ (hw.tp T 0)
 | succ m ih =>
  intro k hk w g cO u0 u1 u2 u3 u4 u5 u6 u7 u8 u9 u10 u11 u12 u13 u15 u16 u17 u18 u19 u20 u21 u22 u23 u24 u25 u26 u27 u28 u29 u30 u31 u32 u34 u35 u36 u37 u38 u39 u40 u41 u42 hw
  have hlt : k < sv.length:=by omega
  obtain ⟨p,hd⟩ : ∃ p,sv[k]? = some p:=⟨sv[k],List.getElem?_eq_getElem (by omega)⟩
  rw [show Item.code loopSM = Item.code (.seq rSM9 (.seq (.cond (.tmp 35) .skip (.exit 0)) (.block 1 (.seq rSM10 rSM11)))) from congrArg _ loopSM_eq]
  refine BO.seq hI ?_
  generalize hk0 : (Item.code (.seq (.cond (.tmp 35) .skip (.exit 0)) (.block 1 (.seq rSM10 rSM11))) :: Item.inLoop loopSM :: Item.inBlock 0 :: [Item.code (.seq rSM12 (.seq rSM13 .ret))]) = K0
  simp only [rSM9,loopSM,tailSM,bodySM,Tryd.f33,Option.getD_some]
  refine BO.regs hI [0,1] rfl ?_
  have hact : C.A.act (.rv k) = .recv c (λ v => k < sv.length /\ v = srvVal sv k) (λ _ => .rv (k + 1)) .wt:=by rw [hA]; rfl
  refine BO.recv hal hI (o:=_) (g:=gc) rfl rfl rfl hct hie' hz (λ R => sval_self _) rfl rfl hK (by intro s hs; rw [hS]; cases hs; decide) hact (λ v hv => ⟨sval p,λ R => ?_,?_⟩) (λ hcl => ?_)
  ·rw [hv.2,srvVal_at hd]; exact sval_self p
  rotate_left
  ·exfalso
   rw [hA] at hcl
   have hcl' : PpL.rv k = PpL.rv sv.length:=hcl
   injection hcl' with e
   omega
  refine BO.op F hI (o:=_) rfl rfl (by rw [hp,hfs,hgs]; kernel_rfl) (by intro s hs; rw [hS]; cases hs; decide) (λ T => ⟨.bool true,Tt.tp w T 0,.inl ?_,?_⟩)
  ·rw [hp]
   have:=ext (sval p) (.bool true) (Tt.tp w T 0)
   show Sem.run _ (Sem.bind (Instr.extract (.tuple #[sval p,.bool true]) 1) (λ v => Sem.pure (Next.value v))) _ = _
   rw [Sem.run_bind',this]; rfl
  replace hw:=hw.tp T 0
  generalize Tt.tp w T 0 = w1 at hw ⊢
  refine BO.regEnd hI ?_
  subst hk0
  refine BO.seq hI ?_
  refine BO.cond hI (t:=true) rfl rfl ?_
  refine BO.skip hI ?_
  refine BO.block hI ?_
  refine BO.seq hI ?_
  refine BO.piece F hI (by rw [hp,hfs,hgs]; kernel_rfl) fok (by rw [hS]; kernel_rfl) (λ T => ?_)
  rw [hp]
  replace hw:=hw.tp T 0
  generalize Tt.tp w1 T 0 = w2 at hw ⊢
  refine wpSM10 ⟨rfl,?_⟩
  have hr : (w2.alloc (.cells #[.int .i64 p.1,.string ⟨p.2.toArray⟩] 31)).heap[w2.heap.size]? = some (.cells #[.int .i64 p.1,.string ⟨p.2.toArray⟩] 31):=heap_alloc_new _ _
  replace hw:=hw.al hb (.cells #[.int .i64 p.1,.string ⟨p.2.toArray⟩] 31)
  generalize w2.heap.size = N at hr ⊢
  generalize w2.alloc (.cells #[.int .i64 p.1,.string ⟨p.2.toArray⟩] 31) = w3 at hw hr ⊢
  refine BO.piece F hI (by rw [hp,hfs,hgs]; kernel_rfl) fok (by rw [hS]; kernel_rfl) (λ T => ?_)
  rw [hp]
  have hr' : (Tt.tp w3 T 0).heap[N]? = some (.cells #[.int .i64 p.1,.string ⟨p.2.toArray⟩] 31):=hr
  replace hw:=hw.tp T 0
  clear hr
  generalize Tt.tp w3 T 0 = w4 at hw hr' ⊢
  refine wpSM11 hw.i hd (by omega) hb hr' λ w5 g2 c2 v37 v38 v39 v40 h5 => ⟨rfl,?_⟩
  refine BO.inBlock hI ?_
  refine BO.inLoop hI ?_
  exact ih (k + 1) (by omega) _ _ _ _ _ _ _ _ _ _ _ _ _ _ _ _ _ _ _ _ _ _ _ _ _ _ _ _ _ _ _ _ _ _ _ _ _ _ _ _ _ _ _ _ h5.t
end
end Go.Proofs.YtkfafknliihabaaDoor
namespace Go.Proofs.YtkfafknliihabaaDoor
open Go.RowKit Go.Mt Go.Conc Go.Tt Go.Conc.Lib Go.ConcR.Gen
structure St3 (W W4 : World) : Prop where
 size : W4.heap.size = W.heap.size + 3
 keep : ∀ b,b < W.heap.size -> W4.heap[b]? = W.heap[b]?
 b0 : W4.heap[W.heap.size]? = some (.chan 0 #[] false 0 0 false)
 b1 : W4.heap[W.heap.size + 1]? = some (.cells #[.chan (some W.heap.size)] 85)
 b2 : Go.ConcR.WgAt 95 (W.heap.size + 2) W4 0 0
 os : W4.os = W.os
 tape : W4.tape = W.tape
 output : W4.output = W.output
def tmps3 (t : Array Value) (n : Nat) : Array Value:=((t.setIfInBounds 29 (.chan (some n))).setIfInBounds 12 (.pointer (some ⟨n + 1,0,none⟩))).setIfInBounds 13 (.pointer (some ⟨n + 2,0,none⟩))
set_option maxHeartbeats 4000000 in
set_option maxRecDepth 100000 in
theorem serve_start {Post : Value -> World -> Prop} {Shun : Loc -> Prop} {W : World} {t : Array Value} {CS : List Frame} (ht : t.size = 43) (hsh : ∀ l b,onB l b -> W.heap.size <= b -> ¬ Shun l)
  (h : ∀ W4,St3 W W4 -> J Tryd.prog Post Shun (W.heap.size + 2) (G ((Conc.base 33).at ⟨tmps3 t W.heap.size,[]⟩ [.code tailSM]) CS) W4) :
  J Tryd.prog Post Shun W.heap.size (G ((Conc.base 33).at ⟨t,[]⟩ [.code rSM3,.code (.seq rSM4 tailSM)]) CS) W:=by
 obtain ⟨ie,hie⟩ : ∃ ie,Tryd.prog.info? 31 = some ie:=Option.isSome_iff_exists.1 (by kernel_rfl)
 have start : ∀ d,J Tryd.prog Post Shun W.heap.size (G ((Conc.base 33).at ⟨t,[]⟩ [.code rSM3,.code (.seq rSM4 tailSM)]) CS) (W.at d):=by
  generalize hk1 : Code.seq rSM4 tailSM = K1
  generalize hk0 : tailSM = K0 at h hk1
  simp only [rSM3,bodySM,Tryd.f33,Option.getD_some]
  refine J.sil rfl (λ w => stepG_region) ?_
  refine J.opv (o:=_) (v:=.chan (some W.heap.size)) (w':=W.alloc (.chan 0 #[] false 0 0 false)) rfl rfl (by decide) (λ d => .inl ?_) (λ d e he => ?_) (by rw [size_push]; omega) ?_
  ·show _ = Result.ok _ ((W.at d).alloc _)
   have hm : (Instr.makeChan 85 (.int .i64 0)).run Tryd.prog (W.at d) = _:=run_makeChan (P:=Tryd.prog) (w:=W.at d) Tryd.underlying85 hie .i64 0 (by omega) (by omega)
   exact run_bv hm
  ·have hm : (Instr.makeChan 85 (.int .i64 0)).run Tryd.prog (W.at d) = _:=run_makeChan (P:=Tryd.prog) (w:=W.at d) Tryd.underlying85 hie .i64 0 (by omega) (by omega)
   have hv:=events_makeChan (P:=Tryd.prog) (w:=W.at d) Tryd.underlying85 hie .i64 0 (by omega) (by omega) #[]
   have:=ev_bv hm hv
   rw [show Sem.events _ (execOp _ _) _ _ = #[] from this] at he
   simp at he
  generalize hW2 : W.alloc (.chan 0 #[] false 0 0 false) = W2
  have s2 : W2.heap.size = W.heap.size + 1:=by rw [<- hW2,size_push]
  refine J.opv (o:=_) (v:=.pointer (some ⟨W.heap.size + 1,0,none⟩)) (w':=W2.alloc (.cells #[.chan none] 85)) rfl rfl (by decide) (λ d => .inl ?_) (λ d e he => ?_) (by rw [size_push]; omega) ?_
  ·show _ = Result.ok _ ((W2.at d).alloc _)
   have hz : (W2.at d).heap.size = W.heap.size + 1:=s2
   rw [<- hz]
   simp [execOp,go_sem,Go.Act.eval]
  ·simp [execOp,go_sem,Go.Act.eval] at he
  generalize hW3 : W2.alloc (.cells #[.chan none] 85) = W3
  have s3 : W3.heap.size = W.heap.size + 2:=by rw [<- hW3,size_push,s2]
  have hb2 : W3.heap[W.heap.size + 1]? = some (.cells #[.chan none] 85):=by rw [<- hW3,<- s2]; exact heap_push _ _
  have e12 : ((t.setIfInBounds 29 (.chan (some W.heap.size))).setIfInBounds 12 (.pointer (some ⟨W.heap.size + 1,0,none⟩))).getD 12 undef = .pointer (some ⟨W.heap.size + 1,0,none⟩):=by
   simp [Array.getD_eq_getD_getElem?,ht]
  have e29 : ((t.setIfInBounds 29 (.chan (some W.heap.size))).setIfInBounds 12 (.pointer (some ⟨W.heap.size + 1,0,none⟩))).getD 29 undef = .chan (some W.heap.size):=by
   rw [Array.getD_eq_getD_getElem?,Array.getElem?_setIfInBounds_ne (by decide),Array.getElem?_setIfInBounds_self_of_lt (by omega)]; rfl
  refine J.opv (o:=_) (v:=undef) (w':=W3.setCell ⟨W.heap.size + 1,0,none⟩ (.chan (some W.heap.size))) rfl rfl (by decide) (λ d => .inr ⟨?_,rfl⟩) (λ d e he => ?_) (by rw [setCell_size]; omega) ?_
  ·have hc:=blk_cell (w:=W3.at d) hb2 0
   have hf:=blk_frozen' (w:=W3.at d) hb2 0
   show _ = Result.ok _ ((W3.at d).setCell _ _)
   simp [execOp,go_sem,Go.Act.eval,Go.Act.put,stored,e12,e29,hc,hf]
  ·have hc:=blk_cell (w:=W3.at d) hb2 0
   have hf:=blk_frozen' (w:=W3.at d) hb2 0
   simp [execOp,go_sem,Go.Act.eval,Go.Act.put,storedEv,e12,e29,hc,hf] at he
   subst he
   exact evL_own (hsh _ (W.heap.size + 1) rfl (by omega)) (by rw [setCell_size,s3]; show W.heap.size + 1 < _; omega)
  have hb2':=blk_setCell hb2 (.chan (some W.heap.size)) (i:=0)
  have hW4k : ∀ b,b ≠ W.heap.size + 1 -> (W3.setCell ⟨W.heap.size + 1,0,none⟩ (.chan (some W.heap.size))).heap[b]? = W3.heap[b]?:=λ b hb => setCell_ne W3 _ _ hb
  have hW4s : (W3.setCell ⟨W.heap.size + 1,0,none⟩ (.chan (some W.heap.size))).heap.size = W.heap.size + 2:=by rw [setCell_size,s3]
  have hA:=aside_setCell W3 ⟨W.heap.size + 1,0,none⟩ (.chan (some W.heap.size))
  generalize hW4 : W3.setCell ⟨W.heap.size + 1,0,none⟩ (.chan (some W.heap.size)) = W4 at hb2' hW4k hW4s hA ⊢
  refine J.sil rfl (λ w => stepG_region_end) ?_
  subst hk1
  refine J.sil rfl (λ w => stepG_seq) ?_
  simp only [rSM4,bodySM,Tryd.f33,Option.getD_some]
  refine J.sil rfl (λ w => stepG_region) ?_
  rw [hW4s]
  refine J.opq (o:=_) (v:=.pointer (some ⟨W.heap.size + 2,0,none⟩)) (w':=W4.alloc (.cells #[.int .u64 0,.int .u32 0] 95)) rfl rfl (by decide) (λ d => ?_) (λ d e he => ?_) ?_
  ·show _ = Result.ok _ ((W4.at d).alloc _)
   have hz : (W4.at d).heap.size = W.heap.size + 2:=hW4s
   rw [<- hz]
   simp [execOp,go_sem,Go.Act.eval]
  ·simp [execOp,go_sem,Go.Act.eval] at he
  refine J.sil rfl (λ w => stepG_region_end) ?_
  intro d
  have k1 : ∀ b,b < W.heap.size + 1 -> W4.heap[b]? = W2.heap[b]?:=λ b hb => by
   rw [hW4k b (by omega),<- hW3,heap_push_lt (by rw [s2]; omega)]
  have hst : St3 W ((W4.alloc (.cells #[.int .u64 0,.int .u32 0] 95)).at d):=by
   refine ⟨?_,λ b hb => ?_,?_,?_,?_,?_,?_,?_⟩
   ·show (W4.alloc _).heap.size = _
    rw [size_push,hW4s]
   ·show (W4.alloc _).heap[b]? = _
    rw [heap_push_lt (by rw [hW4s]; omega),k1 b (by omega),<- hW2,heap_push_lt hb]
   ·show (W4.alloc _).heap[_]? = _
    rw [heap_push_lt (by rw [hW4s]; omega),k1 _ (by omega),<- hW2,heap_push]
   ·show (W4.alloc _).heap[_]? = _
    rw [heap_push_lt (by rw [hW4s]; omega),hb2']
    rfl
   ·show (W4.alloc _).heap[_]? = _
    rw [<- hW4s,heap_push]
    rfl
   ·show W4.os = _
    rw [hA.os,<- hW3,<- hW2]; rfl
   ·show W4.tape = _
    rw [hA.tape,<- hW3,<- hW2]; rfl
   ·show W4.output = _
    rw [hA.output,<- hW3,<- hW2]; rfl
  exact h _ hst
 have:=start W.drawn
 exact this
end Go.Proofs.YtkfafknliihabaaDoor
namespace Go.Proofs.YtkfafknliihabaaDoor
open Go.RowKit Go.Mt Go.Conc Go.Tt Go.Conc.Lib Go.ConcR.Gen
noncomputable def servM (Wg c n : Nat) (val : Nat -> Value) (Fin : Goroutine -> World -> Prop) (K : Pr) (St : Nat -> Prop) (I : Pr -> Terr -> World -> Prop) (base : List Frame) : Cx PpL:=
 { p:=Tryd.prog,gs:=gsF,fs:=fsF,ty:=wgl.tWg,Wg:=Wg,A:=pipe c n val,Fin:=Fin,main:=true,base:=base,ds:=.nil,K:=K,St:=St,I:=I,pin:=[(13,.pointer (some ⟨Wg,0,none⟩))] }
abbrev shunS (Shun : Loc -> Prop) (Wg : Nat) : Loc -> Prop:=λ l => Shun l \/ onB l Wg
abbrev finS (Post : Value -> World -> Prop) (Shun : Loc -> Prop) (Wg : Nat) : Goroutine -> World -> Prop:=λ g w' => J Tryd.prog Post (shunS Shun Wg) w'.heap.size g w'
section
variable {Post : Value -> World -> Prop} {Shun : Loc -> Prop} {Wg c gc gv : Nat} {sv : List (Nat × List UInt8)} {K : Pr} {StM : Nat -> Prop} {I0 : Pr -> Terr -> World -> Prop} {base : List Frame}
set_option maxHeartbeats 4000000 in
set_option maxRecDepth 100000 in
theorem serve_main (hC : IOk (servM Wg c sv.length (srvVal sv) (finS Post Shun Wg) K StM (withLive wgl.tWg Wg I0) base)) (hX : IX wgl.tWg Wg I0) (hK : K gc c) (h40 : sv.length <= 40) {wb : World} (hv : wb.cell? ⟨gv,0,none⟩ = some (.chan (some gc))) (hgv : gv < wb.heap.size)
  (hafter : ∀ u0 u1 u2 u3 u4 u5 u6 u7 u8 u9 u10 u11 u12 u13 u15 u16 u17 u18 u19 u20 u21 u22 u23 u24 u25 u26 u27 u28 u29 u30 u31 u32 u33 u34 u35 u36 u37 u38 u39 u40 u41 u42 (w : World) (g cO : Nat),SvT wb.heap.size wb sv sv.length g cO w -> ∀ (R : Pr) (W : World) (tmps' : Array Value) (τ : Terr) (d : Nat),WRel (SF fsF) K R (prGp Tryd.prog) StM w W -> ArR (SF fsF) K R #[u0,u1,u2,u3,u4,u5,u6,u7,u8,u9,u10,u11,u12,u13,.slice (some ⟨g,0,none⟩) sv.length cO,u15,u16,u17,u18,u19,u20,u21,u22,u23,u24,u25,u26,u27,u28,u29,u30,u31,u32,u33,u34,u35,u36,u37,u38,u39,u40,u41,u42] tmps' -> Terra τ R StM -> I0 R τ W ->
   finS Post Shun Wg (G ((Dk.nil.base 33).at ⟨(Go.Act.put ⟨tmps',[]⟩ (some 41) (.tuple #[])).tmps,[]⟩ [.inRegion (match rSM12 with | .region _ ops _ => ops | _ => #[]) [],.code (.seq rSM13 .ret)]) base) (W.at d))
  {ops6 : Array Oper} {u0 u1 u2 u3 u4 u5 u6 u7 u8 u9 u10 u11 u14 u15 u16 u17 u18 u19 u20 u21 u22 u23 u24 u25 u26 u27 u28 u29 u30 u31 u32 u33 u34 u35 u36 u37 u38 u39 u40 u41 u42 : Value} :
  BO (servM Wg c sv.length (srvVal sv) (finS Post Shun Wg) K StM (withLive wgl.tWg Wg I0) base) (.rv 0) ⟨33,#[u0,u1,u2,u3,u4,u5,u6,u7,u8,u9,u10,u11,.pointer (some ⟨gv,0,none⟩),.nilFunc,u14,u15,u16,u17,u18,u19,u20,u21,u22,u23,u24,u25,u26,u27,u28,u29,u30,u31,u32,u33,u34,u35,u36,u37,u38,u39,u40,u41,u42],[.inRegion ops6 [],.code (.seq rSM7 (.seq (.seq rSM8 (.block 0 (.loop loopSM))) (.seq rSM12 (.seq rSM13 .ret))))],false⟩ wb:=by
 let C:=servM Wg c sv.length (srvVal sv) (finS Post Shun Wg) K StM (withLive wgl.tWg Wg I0) base
 have F : Fit3 C.P C.fs:=fitF
 have fok : FnOk C.p 33:=⟨_,Tryd.func33,.inr (.inr (.inl ⟨_,_,rfl⟩))⟩
 show BO C _ _ _
 refine BO.regEnd hC ?_
 refine BO.seq hC ?_
 refine BO.piece (C:=C) F hC (by kernel_rfl) fok (by kernel_rfl) (λ T => ?_)
 have hsz : (Tt.tp wb T 0).heap.size = wb.heap.size:=rfl
 refine wpSM7 λ w1 v32 hi => ⟨rfl,?_⟩
 have h1 : SvT wb.heap.size wb sv 0 wb.heap.size 0 w1:=⟨by have:=hi.own; rw [hsz] at this; simpa using this,hi.below.size,hi.below.block⟩
 rw [hsz]
 clear hi
 refine BO.seq hC ?_
 refine BO.seq hC ?_
 generalize hk0 : (Item.code (.block 0 (.loop loopSM)) :: [Item.code (.seq rSM12 (.seq rSM13 .ret))]) = K0
 simp only [rSM8,tailSM,bodySM,Tryd.f33,Option.getD_some]
 refine BO.regs hC [0] rfl ?_
 refine BO.op (C:=C) F hC (o:=_) rfl rfl (by kernel_rfl) (by intro s hs; cases hs; show (33 : Nat) ∉ ([13] : List Nat); decide) (λ T => ⟨.chan (some gc),Tt.tp w1 T 0,.inl ?_,?_⟩)
 ·refine exec_load1 (a:=⟨gv,0,none⟩) rfl rfl (Tryd.isAgg85 _) ?_
  exact (World.cell?_of_block (h1.block gv hgv)).trans hv
 refine BO.regEnd hC ?_
 subst hk0
 refine BO.block hC ?_
 refine BO.loop hC ?_
 refine serve_loop C rfl rfl rfl rfl rfl rfl hC hK (Nat.le_refl _) h40 ?_ sv.length 0 (by omega) _ _ _ _ _ _ _ _ _ _ _ _ _ _ _ _ _ _ _ _ _ _ _ _ _ _ _ _ _ _ _ _ _ _ _ _ _ _ _ _ _ _ _ _ (h1.tp T 0)
 intro u0 u1 u2 u3 u4 u5 u6 u7 u8 u9 u10 u11 u12 u13 u15 u16 u17 u18 u19 u20 u21 u22 u23 u24 u25 u26 u27 u28 u29 u30 u31 u32 u33 u34 u35 u36 u37 u38 u39 u40 u41 u42 w g cO hw
 refine BO.seq hC ?_
 have hcase:=hafter u0 u1 u2 u3 u4 u5 u6 u7 u8 u9 u10 u11 u12 u13 u15 u16 u17 u18 u19 u20 u21 u22 u23 u24 u25 u26 u27 u28 u29 u30 u31 u32 u33 u34 u35 u36 u37 u38 u39 u40 u41 u42 w g cO hw
 generalize hk0 : ([Item.code (.seq rSM13 .ret)] : List Item) = K0 at hcase ⊢
 simp only [rSM12,tailSM,bodySM,Tryd.f33,Option.getD_some] at hcase ⊢
 refine BO.regs hC [0] rfl ?_
 exact BO.wait (C:=C) (Lk:=wgl) (s:=13) wgLib rfl rfl rfl hC rfl hX (λ n g w h => fin_goes n g w h) (o:=_) rfl rfl rfl (List.mem_singleton.2 rfl) rfl (λ R W tmps' τ d a b e f _ => hcase R W tmps' τ d a b e f)
end
end Go.Proofs.YtkfafknliihabaaDoor
namespace Go.Proofs.YtkfafknliihabaaDoor
open Go.RowKit Go.Mt Go.Conc Go.Tt Go.Conc.Lib Go.ConcR.Gen
structure GoW (D : ChD) (X : Nat -> Bool) (w : World) : Prop where
 xv : X D.gv = true
 x2 : X D.g2 = true
 x3 : X D.g3 = true
 x4 : X D.g4 = true
 x5 : X D.g5 = true
 x6 : X D.g6 = true
 v : w.cell? ⟨D.gv,0,none⟩ = some (.chan (some D.gc))
 r : w.cell? ⟨D.g2,0,none⟩ = some (.slice D.A1 D.n1 D.c1)
 d : w.cell? ⟨D.g3,0,none⟩ = some (.slice D.A2 D.n2 D.c2)
 u : w.cell? ⟨D.g4,0,none⟩ = some (.int .i64 D.turns)
 t : w.cell? ⟨D.g5,0,none⟩ = some (.slice D.A3 D.n3 D.c3)
 a : w.cell? ⟨D.g6,0,none⟩ = some (.bool D.around)
 sr : Slc w 0 w.heap.size 1 D.A1 D.n1 D.c1 (ints D.rooms)
 sd : Slc w 0 w.heap.size 3 D.A2 D.n2 D.c2 (deeds D.ds)
 st : Slc w 0 w.heap.size 3 D.A3 D.n3 D.c3 (deeds D.ts)
 xa1 : ∀ x,D.A1 = some x -> X x.block = true
 xa2 : ∀ x,D.A2 = some x -> X x.block = true
 xa3 : ∀ x,D.A3 = some x -> X x.block = true
 tab : TabW w
 xtab : ∀ g,tabOk Tryd.prog g = true -> X g = true
 cells : ∀ a,X a = true -> ∃ c T fz,w.heap[a]? = some (.cells c T fz)
 closed : ∀ a c T fz,X a = true -> w.heap[a]? = some (.cells c T fz) -> ∀ v ∈ c,InX (λ a => X a = true) (λ a => a = D.gc) v
theorem reX_cell {X : Nat -> Bool} {w : World} {b o : Nat} {v : Value} (hx : X b = true) (hc : ∃ c T fz,w.heap[b]? = some (.cells c T fz)) (h : w.cell? ⟨b,o,none⟩ = some v) : (reX X w).cell? ⟨b,o,none⟩ = some v:=by
 obtain ⟨c,T,fz,hc⟩:=hc
 have e1 : w.cell? ⟨b,o,none⟩ = c[o]?:=by simp [World.cell?,hc]
 have e2 : (reX X w).cell? ⟨b,o,none⟩ = c[o]?:=by simp [World.cell?,reX_in hx hc]
 rw [e2,<- e1]; exact h
theorem frX_cell {X : Nat -> Bool} {w : World} {b o : Nat} {v : Value} (hx : X b = true) (hc : ∃ c T fz,w.heap[b]? = some (.cells c T fz)) (h : w.cell? ⟨b,o,none⟩ = some v) : (frX X w).cell? ⟨b,o,none⟩ = some v:=by
 obtain ⟨c,T,fz,hc⟩:=hc
 have e1 : w.cell? ⟨b,o,none⟩ = c[o]?:=by simp [World.cell?,hc]
 have e2 : (frX X w).cell? ⟨b,o,none⟩ = c[o]?:=by simp [World.cell?,frX_in hx hc]
 rw [e2,<- e1]; exact h
theorem reX_slc {X : Nat -> Bool} {w : World} {s n c : Nat} {A : Option Addr} {xs : List Value} (h : Slc w 0 w.heap.size s A n c xs) (hx : ∀ x,A = some x -> X x.block = true) (hc : ∀ a,X a = true -> ∃ c T fz,w.heap[a]? = some (.cells c T fz)) : Slc (reX X w) 0 (reX X w).heap.size s A n c xs:=by
 refine ⟨h.len,h.le,h.cap,λ hn => ?_⟩
 obtain ⟨b,off,e,h1,h2,h3,h4⟩:=h.at_ hn
 have hb:=hx _ e
 exact ⟨b,off,e,h1,by rw [reX_size]; exact h2,by rw [reX_size]; exact h3,λ j v hv => reX_cell hb (hc b hb) (h4 j v hv)⟩
theorem tab_named : ((Tryd.prog.globalNamed "internal/strconv.uint64pow10").map λ g => tabOk Tryd.prog g) = some true:=by kernel_rfl
theorem reX_tab {X : Nat -> Bool} {w : World} (h : TabW w) (hx : ∀ g,tabOk Tryd.prog g = true -> X g = true) (hc : ∀ a,X a = true -> ∃ c T fz,w.heap[a]? = some (.cells c T fz)) : TabW (reX X w):=by
 obtain ⟨g,hg,hok⟩:=Option.map_eq_some_iff.1 tab_named
 obtain ⟨c,T,fz,hw⟩:=hc g (hx g hok)
 unfold TabW Lib.TabIs World.var? at *
 rw [hg] at h ⊢
 simp only [Option.bind_some] at h ⊢
 rw [hw] at h
 rw [reX_in (hx g hok) hw]
 exact h
theorem GoW.chs {D : ChD} {X : Nat -> Bool} {w : World} (h : GoW D X w) : ChS D (reX X w).heap.size (reX X w):=by
 have lt : ∀ {b : Nat},X b = true -> b < (reX X w).heap.size:=λ {b} hb => by
  obtain ⟨c,T,fz,hc⟩:=h.cells b hb
  rw [reX_size]; exact (Array.getElem?_eq_some_iff.1 hc).1
 have htab:=reX_tab h.tab h.xtab h.cells
 exact ⟨reX_cell h.xv (h.cells _ h.xv) h.v,reX_cell h.x2 (h.cells _ h.x2) h.r,reX_cell h.x3 (h.cells _ h.x3) h.d,reX_cell h.x4 (h.cells _ h.x4) h.u,reX_cell h.x5 (h.cells _ h.x5) h.t,reX_cell h.x6 (h.cells _ h.x6) h.a,
  reX_slc h.sr h.xa1 h.cells,reX_slc h.sd h.xa2 h.cells,reX_slc h.st h.xa3 h.cells,⟨⟨lt h.xv,lt h.x2,lt h.x3⟩,lt h.x4,lt h.x5,lt h.x6⟩,λ w' hb => htab.below hb,Nat.le_refl _⟩
theorem child_tmps (t13 t12 t5 t6 t8 t7 t9 : Value) : (#[] ++ #[t13,t12,t5,t6,t8,t7,t9]) ++ Array.replicate (36 - (#[] ++ #[t13,t12,t5,t6,t8,t7,t9] : Array Value).size) undef = (#[t13,t12,t5,t6,t8,t7,t9,undef,undef,undef,undef,undef,undef,undef,undef,undef,undef,undef,undef,undef,undef,undef,undef,undef,undef,undef,undef,undef,undef,undef,undef,undef,undef,undef,undef,undef] : Array Value):=by
 have e : (#[] ++ #[t13,t12,t5,t6,t8,t7,t9] : Array Value).size = 7:=by simp
 rw [e]
 apply Array.ext'
 simp only [Array.toList_append,Array.toList_replicate]
 rfl
section
variable {Post : Value -> World -> Prop} {Shun : Loc -> Prop} {W0 : World} {St : Nat -> Prop} {Wg N : Nat} {sv : List (Nat × List UInt8)} {K : Pr} {base : List Frame} {D : ChD} {X : Nat -> Bool} {w2 : World}
set_option maxHeartbeats 4000000 in
set_option maxRecDepth 100000 in
theorem go_child (hG : GoW D X w2) (hd : deedsB D.rooms D.ds = true) (ht : tableB D.ts D.rooms.length = true) (hturns : D.turns <= 40) (hsv : sv = serveF D.ts D.around D.turns (runF D.rooms D.ds).1 0) (hK : K D.gc N)
  {R : Pr} {W : World} {g t : Array Value} {τ : Terr} {StC : Nat -> Prop} {Fin : Goroutine -> World -> Prop} (hw : WRel (SF fsF) K R (prGp Tryd.prog) StC w2 W) (hx : XOk R X w2) (hN : ∀ a,¬ R a N) (ha : ArR (SF fsF) K R g t) (hg : g[12]? = some (.pointer (some ⟨D.gv,0,none⟩)) /\ g[5]? = some (.pointer (some ⟨D.g2,0,none⟩)) /\ g[6]? = some (.pointer (some ⟨D.g3,0,none⟩)) /\ g[8]? = some (.pointer (some ⟨D.g4,0,none⟩)) /\ g[7]? = some (.pointer (some ⟨D.g5,0,none⟩)) /\ g[9]? = some (.pointer (some ⟨D.g6,0,none⟩)))
  (h13 : t.getD 13 undef = .pointer (some ⟨Wg,0,none⟩)) (hwg : Wg < W.heap.size) (hlive : WgLive wgl.tWg Wg W) :
  BehE Tryd.prog wgl.tWg Wg (pipe N sv.length (srvVal sv)) Fin false (.usr (.sd 0)) 0 (tauGc τ R X [N]) (born Tryd.prog { target:=.fn (.func 52) #[t.getD 13 undef,t.getD 12 undef,t.getD 5 undef,t.getD 6 undef,t.getD 8 undef,t.getD 7 undef,t.getD 9 undef],args:=#[] }) W:=by
 refine beh_silent rfl rfl (λ W₁ s => born_stepG (c:=bodySC) Tryd.func52 (by decide) rfl W₁) λ W₁ s => ?_
 have hno : ∀ b,¬ R D.gc b:=λ b x => by
  obtain rfl:=hw.inj D.gc b N (.inl x) (.inr hK)
  exact hN _ x
 have hrel:=reX_rel hw hx hG.xtab (KD:=λ a => a = D.gc) hG.closed (λ a b x e => absurd (e ▸ x) (hno b))
 have htc : Terra (tauGc τ R X [N]) (rX R X) (λ a => X a = true):=terra_gc
 have hB:=serv_child (Wg:=Wg) (c:=N) (D:=D) (sv:=sv) (Fin:=Fin) (K:=kX K (λ a => a = D.gc)) (St:=λ a => X a = true) ⟨hK,rfl⟩ hd ht hturns hsv hG.chs
 have hrel1:=Cx.Rel.suf (C:=servCx Wg N sv.length (srvVal sv) Fin (kX K (λ a => a = D.gc)) (λ a => X a = true)) hrel htc s
 have hK' : ∀ a b,R.or K a b -> a = D.gc -> (rX R X).or (kX K (λ a => a = D.gc)) a b:=λ a b x e => by
  rcases x with x | x
  ·exact absurd (e ▸ x) (hno b)
  ·exact .inr ⟨x,e⟩
 have ptr : ∀ {i b : Nat},g[i]? = some (.pointer (some ⟨b,0,none⟩)) -> X b = true -> VR (SF fsF) (kX K (λ a => a = D.gc)) (rX R X) (.pointer (some ⟨b,0,none⟩)) (t.getD i undef):=λ {i b} hi hb => by
  have h1:=ha.getD i (vr_undef (S:=SF fsF) (K:=K) (R:=R))
  rw [Array.getD_eq_getD_getElem?,hi] at h1
  exact InX.vr h1 (λ p q y z => ⟨y,z⟩) hK' (.pointer λ x e => by cases e; exact hb)
 have hntm : (Tryd.f52).ntmps = 36:=rfl
 generalize h12 : t.getD 12 undef = t12 at *
 have p12:=ptr hg.1 hG.xv
 have p5:=ptr hg.2.1 hG.x2
 have p6:=ptr hg.2.2.1 hG.x3
 have p8:=ptr hg.2.2.2.1 hG.x4
 have p7:=ptr hg.2.2.2.2.1 hG.x5
 have p9:=ptr hg.2.2.2.2.2 hG.x6
 rw [h12] at p12
 rw [h13]
 generalize t.getD 5 undef = t5 at *
 generalize t.getD 6 undef = t6 at *
 generalize t.getD 8 undef = t8 at *
 generalize t.getD 7 undef = t7 at *
 generalize t.getD 9 undef = t9 at *
 have hC36:=child_tmps (.pointer (some ⟨Wg,0,none⟩)) t12 t5 t6 t8 t7 t9
 rw [hntm,hC36]
 clear hC36
 have vu:=vr_undef (S:=SF fsF) (K:=kX K (λ a => a = D.gc)) (R:=rX R X)
 have hj : ∀ x,Tt.Hid x -> VR (SF fsF) (kX K (λ a => a = D.gc)) (rX R X) .nilFunc x:=λ x h => .junk h
 have:=hB (rX R X) W₁ ⟨52,#[.pointer (some ⟨Wg,0,none⟩),t12,t5,t6,t8,t7,t9,undef,undef,undef,undef,undef,undef,undef,undef,undef,undef,undef,undef,undef,undef,undef,undef,undef,undef,undef,undef,undef,undef,undef,undef,undef,undef,undef,undef,undef],[.code bodySC],false⟩ (tauGc τ R X [N]) hrel1 ⟨rfl,rfl,rfl,?_,λ x hx => ?_⟩ htc ⟨List.mem_singleton.2 rfl,λ x => x.elim,by have:=s.size; omega,s.live hlive⟩
 ·exact this
 ·exact arR_list (.cons (hj _ (by exact True.intro)) (.cons p12 (.cons p5 (.cons p6 (.cons p8 (.cons p7 (.cons p9 (.cons vu (.cons vu (.cons vu (.cons vu (.cons vu (.cons vu (.cons vu (.cons vu (.cons vu (.cons vu (.cons vu (.cons vu (.cons vu (.cons vu (.cons vu (.cons vu (.cons vu (.cons vu (.cons vu (.cons vu (.cons vu (.cons vu (.cons vu (.cons vu (.cons vu (.cons vu (.cons vu (.cons vu (.cons vu .nil))))))))))))))))))))))))))))))))))))
 ·obtain rfl:=List.mem_singleton.1 hx
  rfl
end
end Go.Proofs.YtkfafknliihabaaDoor
namespace Go.Proofs.YtkfafknliihabaaDoor
open Go.RowKit Go.Mt Go.Conc Go.Tt Go.Conc.Lib Go.ConcR.Gen
noncomputable def opsSM6 : Array Oper:=match rSM6 with | .region _ ops _ => ops | _ => #[]
noncomputable def opsSM12 : Array Oper:=match rSM12 with | .region _ ops _ => ops | _ => #[]
theorem gT_eq {D : ChD} {u16 u17 u18 u19 u20 u21 u22 u23 u24 u25 u26 u27 u28 v1 v2 : Value} : ((#[.slice D.A1 D.n1 D.c1,.slice D.A2 D.n2 D.c2,.slice D.A3 D.n3 D.c3,.int .i64 D.turns,.bool D.around,.pointer (some ⟨D.g2,0,none⟩),.pointer (some ⟨D.g3,0,none⟩),.pointer (some ⟨D.g5,0,none⟩),.pointer (some ⟨D.g4,0,none⟩),.pointer (some ⟨D.g6,0,none⟩),.slice none 0 0,.bool false,undef,undef,undef,undef,u16,u17,u18,u19,u20,u21,u22,u23,u24,u25,u26,u27,u28,undef,undef,undef,undef,undef,undef,undef,undef,undef,undef,undef,undef,undef,undef] : Array Value).setIfInBounds 29 v1).setIfInBounds 12 v2 = #[.slice D.A1 D.n1 D.c1,.slice D.A2 D.n2 D.c2,.slice D.A3 D.n3 D.c3,.int .i64 D.turns,.bool D.around,.pointer (some ⟨D.g2,0,none⟩),.pointer (some ⟨D.g3,0,none⟩),.pointer (some ⟨D.g5,0,none⟩),.pointer (some ⟨D.g4,0,none⟩),.pointer (some ⟨D.g6,0,none⟩),.slice none 0 0,.bool false,v2,undef,undef,undef,u16,u17,u18,u19,u20,u21,u22,u23,u24,u25,u26,u27,u28,v1,undef,undef,undef,undef,undef,undef,undef,undef,undef,undef,undef,undef,undef]:=by
 simp [List.set]
theorem gT_eq2 {D : ChD} {u16 u17 u18 u19 u20 u21 u22 u23 u24 u25 u26 u27 u28 v1 v2 v3 : Value} : (#[.slice D.A1 D.n1 D.c1,.slice D.A2 D.n2 D.c2,.slice D.A3 D.n3 D.c3,.int .i64 D.turns,.bool D.around,.pointer (some ⟨D.g2,0,none⟩),.pointer (some ⟨D.g3,0,none⟩),.pointer (some ⟨D.g5,0,none⟩),.pointer (some ⟨D.g4,0,none⟩),.pointer (some ⟨D.g6,0,none⟩),.slice none 0 0,.bool false,v2,undef,undef,undef,u16,u17,u18,u19,u20,u21,u22,u23,u24,u25,u26,u27,u28,v1,undef,undef,undef,undef,undef,undef,undef,undef,undef,undef,undef,undef,undef] : Array Value).setIfInBounds 13 v3 = #[.slice D.A1 D.n1 D.c1,.slice D.A2 D.n2 D.c2,.slice D.A3 D.n3 D.c3,.int .i64 D.turns,.bool D.around,.pointer (some ⟨D.g2,0,none⟩),.pointer (some ⟨D.g3,0,none⟩),.pointer (some ⟨D.g5,0,none⟩),.pointer (some ⟨D.g4,0,none⟩),.pointer (some ⟨D.g6,0,none⟩),.slice none 0 0,.bool false,v2,v3,undef,undef,u16,u17,u18,u19,u20,u21,u22,u23,u24,u25,u26,u27,u28,v1,undef,undef,undef,undef,undef,undef,undef,undef,undef,undef,undef,undef,undef]:=by
 simp [List.set]
theorem gT_eq3 {D : ChD} {u16 u17 u18 u19 u20 u21 u22 u23 u24 u25 u26 u27 u28 v1 v2 v3 v4 v5 : Value} : (#[.slice D.A1 D.n1 D.c1,.slice D.A2 D.n2 D.c2,.slice D.A3 D.n3 D.c3,.int .i64 D.turns,.bool D.around,.pointer (some ⟨D.g2,0,none⟩),.pointer (some ⟨D.g3,0,none⟩),.pointer (some ⟨D.g5,0,none⟩),.pointer (some ⟨D.g4,0,none⟩),.pointer (some ⟨D.g6,0,none⟩),.slice none 0 0,.bool false,v2,v3,undef,undef,u16,u17,u18,u19,u20,u21,u22,u23,u24,u25,u26,u27,u28,v1,v4,undef,undef,undef,undef,undef,undef,undef,undef,undef,undef,undef,undef] : Array Value).setIfInBounds 31 v5 = #[.slice D.A1 D.n1 D.c1,.slice D.A2 D.n2 D.c2,.slice D.A3 D.n3 D.c3,.int .i64 D.turns,.bool D.around,.pointer (some ⟨D.g2,0,none⟩),.pointer (some ⟨D.g3,0,none⟩),.pointer (some ⟨D.g5,0,none⟩),.pointer (some ⟨D.g4,0,none⟩),.pointer (some ⟨D.g6,0,none⟩),.slice none 0 0,.bool false,v2,v3,undef,undef,u16,u17,u18,u19,u20,u21,u22,u23,u24,u25,u26,u27,u28,v1,v4,v5,undef,undef,undef,undef,undef,undef,undef,undef,undef,undef,undef]:=by
 simp [List.set]
section
variable {Post : Value -> World -> Prop} {Shun : Loc -> Prop} {W0 : World} {St : Nat -> Prop} {Wg N : Nat} {sv : List (Nat × List UInt8)} {K R2 : Pr} {base : List Frame} {D : ChD} {X : Nat -> Bool} {w2 W4 : World} {SS : Nat -> Prop}
def AfterS (Post : Value -> World -> Prop) (Shun : Loc -> Prop) (W0 : World) (St : Nat -> Prop) (Wg : Nat) (sv : List (Nat × List UInt8)) (K R2 : Pr) (base : List Frame) (X : Nat -> Bool) (w2 : World) : Prop:=
 ∀ (R' : Pr) (u0 u1 u2 u3 u4 u5 u6 u7 u8 u9 u10 u11 u12 u13 u15 u16 u17 u18 u19 u20 u21 u22 u23 u24 u25 u26 u27 u28 u29 u30 u31 u32 u33 u34 u35 u36 u37 u38 u39 u40 u41 u42 : Value) (wn : World) (g cO : Nat),R2.le R' -> SvT (frX X w2).heap.size (frX X w2) sv sv.length g cO wn ->
  BO (aloneCx Tryd.prog gsF fsF Post (shunS Shun Wg) W0 St K R' base) () ⟨33,(Go.Act.put ⟨#[u0,u1,u2,u3,u4,u5,u6,u7,u8,u9,u10,u11,u12,u13,.slice (some ⟨g,0,none⟩) sv.length cO,u15,u16,u17,u18,u19,u20,u21,u22,u23,u24,u25,u26,u27,u28,u29,u30,u31,u32,u33,u34,u35,u36,u37,u38,u39,u40,u41,u42],[]⟩ (some 41) (.tuple #[])).tmps,[.inRegion opsSM12 [],.code (.seq rSM13 .ret)],false⟩ (thX X w2 wn)
set_option maxHeartbeats 4000000 in
set_option maxRecDepth 100000 in
theorem serve_go (hG : GoW D X w2) (hd : deedsB D.rooms D.ds = true) (htb : tableB D.ts D.rooms.length = true) (hturns : D.turns <= 40) (hsv : sv = serveF D.ts D.around D.turns (runF D.rooms D.ds).1 0) (hK : K D.gc N) (hx : XOk R2 X w2)
  (hSS : ∀ b,b < W0.heap.size -> SS b) (hlow : W0.heap.size <= Wg) (hafter : AfterS Post Shun W0 St Wg sv K R2 base X w2) {ops5 : Array Oper} {u16 u17 u18 u19 u20 u21 u22 u23 u24 u25 u26 u27 u28 : Value} :
  BO (servM Wg N sv.length (srvVal sv) (finS Post Shun Wg) K St (withLive wgl.tWg Wg (IM2 W0 St (shunS Shun Wg) Wg SS R2 (λ _ => False) W4 [N])) base) .m1 ⟨33,#[.slice D.A1 D.n1 D.c1,.slice D.A2 D.n2 D.c2,.slice D.A3 D.n3 D.c3,.int .i64 D.turns,.bool D.around,.pointer (some ⟨D.g2,0,none⟩),.pointer (some ⟨D.g3,0,none⟩),.pointer (some ⟨D.g5,0,none⟩),.pointer (some ⟨D.g4,0,none⟩),.pointer (some ⟨D.g6,0,none⟩),.slice none 0 0,.bool false,.pointer (some ⟨D.gv,0,none⟩),.nilFunc,undef,undef,u16,u17,u18,u19,u20,u21,u22,u23,u24,u25,u26,u27,u28,.chan (some D.gc),.tuple #[],undef,undef,undef,undef,undef,undef,undef,undef,undef,undef,undef,undef],[.inRegion ops5 [],.code (.seq rSM6 (.seq rSM7 (.seq (.seq rSM8 (.block 0 (.loop loopSM))) (.seq rSM12 (.seq rSM13 .ret)))))],false⟩ w2:=by
 let C:=servM Wg N sv.length (srvVal sv) (finS Post Shun Wg) K St (withLive wgl.tWg Wg (IM2 W0 St (shunS Shun Wg) Wg SS R2 (λ _ => False) W4 [N])) base
 have hC : IOk C:=im2_ok (C:=C) rfl (λ a h => h) hSS (λ b h => h.elim) hlow
 have h40 : sv.length <= 40:=by have:=serveF_len (ts:=D.ts) (around:=D.around) D.turns (runF D.rooms D.ds).1 0; rw [hsv]; omega
 show BO C _ _ _
 refine BO.regEnd hC ?_
 refine BO.seq hC ?_
 generalize hk0 : ([Item.code (.seq rSM7 (.seq (.seq rSM8 (.block 0 (.loop loopSM))) (.seq rSM12 (.seq rSM13 .ret))))] : List Item) = K0
 simp only [rSM6,tailSM,bodySM,Tryd.f33,Option.getD_some]
 refine BO.regs hC [0,1] rfl ?_
 refine BO.go (C:=C) rfl hC (o1:=_) (o2:=_) rfl rfl rfl rfl rfl rfl rfl rfl (lc:=.sd 0) (nx:=.rv 0) (pub:=[N]) rfl (by simp) λ R W t τ hw ha hpin ht hi => ?_
 subst hk0
 have hw : WRel (SF fsF) K R (prGp Tryd.prog) St w2 W:=hw
 have hi : withLive wgl.tWg Wg (IM2 W0 St (shunS Shun Wg) Wg SS R2 (λ _ => False) W4 [N]) R τ W:=hi
 obtain ⟨hi,hlive⟩:=hi
 have hxR : XOk R X w2:=⟨λ a h => let ⟨b,hb⟩:=hx.dom a h; ⟨b,hi.x.le _ _ hb⟩,hx.cells⟩
 have hN : ∀ a,¬ R a N:=(hi.ch N (List.mem_singleton.2 rfl)).2.2
 have h13 : t.getD 13 undef = .pointer (some ⟨Wg,0,none⟩):=hpin (13,.pointer (some ⟨Wg,0,none⟩)) (List.mem_singleton.2 rfl)
 have hfr:=frX_rel hw hxR
 have htm : Terra (tauGm τ R X [N]) R (λ a => St a \/ X a = true):=terra_gm hw ht (λ c hc a => by obtain rfl:=List.mem_singleton.1 hc; exact hN a)
 have him:=im2_gm (X:=X) hw ht (λ a h => h) hi
 refine ⟨tauGm τ R X [N],tauGc τ R X [N],parts_go ht hi,?_,?_⟩
 ·have hSS' : ∀ b,b < W0.heap.size -> (tauGm τ R X [N]).still b:=λ b hb => .inl (by rw [hi.x.im.still]; exact hSS b hb)
  have hFz : ∀ b,fzG R St X b -> (tauGm τ R X [N]).still b:=λ b hb => fzG_still ht hb
  let C1:=servM Wg N sv.length (srvVal sv) (finS Post Shun Wg) K (λ a => St a \/ X a = true) (withLive wgl.tWg Wg (IM2 W0 St (shunS Shun Wg) Wg (tauGm τ R X [N]).still R (fzG R St X) W [])) base
  have hC1 : IOk C1:=im2_ok (C:=C1) rfl (λ a h => .inl h) hSS' hFz hlow
  have hX1:=im2_ix (ty:=wgl.tWg) (St:=St) (Shun:=shunS Shun Wg) (R0:=R) (Wf:=W) (chs:=[]) hSS' hFz hlow
  have hvc:=frX_cell (X:=X) hG.xv (hG.cells _ hG.xv) hG.v
  have hgv : D.gv < (frX X w2).heap.size:=by
   obtain ⟨c,T,fz,hc⟩:=hG.cells _ hG.xv
   rw [frX_size]; exact (Array.getElem?_eq_some_iff.1 hc).1
  have hB:=serve_main (Post:=Post) (Shun:=Shun) (Wg:=Wg) (c:=N) (gc:=D.gc) (gv:=D.gv) (sv:=sv) (K:=K) (base:=base) hC1 hX1 hK h40 hvc hgv (λ u0 u1 u2 u3 u4 u5 u6 u7 u8 u9 u10 u11 u12 u13 u15 u16 u17 u18 u19 u20 u21 u22 u23 u24 u25 u26 u27 u28 u29 u30 u31 u32 u33 u34 u35 u36 u37 u38 u39 u40 u41 u42 w g cO hS R' W' t' τ' d hw' ha' ht' hi' => ?_) (ops6:=opsSM6) (u0:=.slice D.A1 D.n1 D.c1) (u1:=.slice D.A2 D.n2 D.c2) (u2:=.slice D.A3 D.n3 D.c3) (u3:=.int .i64 D.turns) (u4:=.bool D.around) (u5:=.pointer (some ⟨D.g2,0,none⟩)) (u6:=.pointer (some ⟨D.g3,0,none⟩)) (u7:=.pointer (some ⟨D.g5,0,none⟩)) (u8:=.pointer (some ⟨D.g4,0,none⟩)) (u9:=.pointer (some ⟨D.g6,0,none⟩)) (u10:=.slice none 0 0) (u11:=.bool false) (u14:=undef) (u15:=undef) (u16:=u16) (u17:=u17) (u18:=u18) (u19:=u19) (u20:=u20) (u21:=u21) (u22:=u22) (u23:=u23) (u24:=u24) (u25:=u25) (u26:=u26) (u27:=u27) (u28:=u28) (u29:=.chan (some D.gc)) (u30:=.tuple #[]) (u31:=.nilFunc) (u32:=undef) (u33:=undef) (u34:=undef) (u35:=undef) (u36:=undef) (u37:=undef) (u38:=undef) (u39:=undef) (u40:=undef) (u41:=undef) (u42:=undef)
  ·have hm:=hB R W ⟨33,t.setIfInBounds 31 (.func (.func 52) #[] ((#[.tmp 13,.tmp 12,.tmp 5,.tmp 6,.tmp 8,.tmp 7,.tmp 9] : Array Operand).map (Go.Act.mk t C.ds.ds).eval)),[.inRegion opsSM6 [],.code (.seq rSM7 (.seq (.seq rSM8 (.block 0 (.loop loopSM))) (.seq rSM12 (.seq rSM13 .ret))))],false⟩ (tauGm τ R X [N]) hfr ⟨rfl,rfl,rfl,?_,λ x hx' => ?_⟩ htm ⟨him,hlive⟩
   ·rw [Cx.B_none (C:=C1) rfl,fx_at] at hm
    exact hm
   ·have h1:=ha.set 31 (.junk (v':=(.func (.func 52) #[] ((#[.tmp 13,.tmp 12,.tmp 5,.tmp 6,.tmp 8,.tmp 7,.tmp 9] : Array Operand).map (Go.Act.mk t C.ds.ds).eval))) (by exact True.intro))
    rw [gT_eq3] at h1
    exact h1
   ·obtain rfl:=List.mem_singleton.1 hx'
    show (t.setIfInBounds 31 _).getD 13 undef = _
    rw [<- h13]
    simp only [Array.getD_eq_getD_getElem?,Array.getElem?_setIfInBounds_ne (show (31 : Nat) ≠ 13 by decide)]
  ·have hth:=thX_rel (St':=λ a => St a \/ X a = true) hw hxR hi'.x.le (.refl K) hw' (λ a h => .inl h) (λ a b hxa hab => (hi'.x.fz b ⟨a,hab,.inr hxa⟩).2.1)
   have hbo:=hafter R' u0 u1 u2 u3 u4 u5 u6 u7 u8 u9 u10 u11 u12 u13 u15 u16 u17 u18 u19 u20 u21 u22 u23 u24 u25 u26 u27 u28 u29 u30 u31 u32 u33 u34 u35 u36 u37 u38 u39 u40 u41 u42 w g cO (hi.x.le.trans hi'.x.le) hS
   have hin:=BO.aloneIn (W:=W'.at d) (m':=⟨33,(Go.Act.put ⟨t',[]⟩ (some 41) (.tuple #[])).tmps,[.inRegion opsSM12 [],.code (.seq rSM13 .ret)],false⟩) hbo (WRel.at hth d) ⟨rfl,rfl,rfl,put_rel (C:=C1) ha' (.tuple rfl λ i v v' h => by simp at h),λ x hx' => by cases hx'⟩ ⟨hi'.x.im.sh.old,hi'.x.im.sh.rel,hi'.x.im.sh.new⟩ ⟨hi'.x.im.kp.os,hi'.x.im.kp.tape,hi'.x.im.kp.output,hi'.x.im.kp.size,hi'.x.im.kp.block,hi'.x.im.kp.old⟩
   have e:=fx_at .nil 33 (Go.Act.put ⟨t',[]⟩ (some 41) (.tuple #[])).tmps [.inRegion opsSM12 [],.code (.seq rSM13 .ret)]
   rw [fx_nil] at e
   rw [e] at hin
   exact hin
 ·simp only [List.map_toArray,List.map_cons,List.map_nil,Go.Act.eval]
  exact go_child (Fin:=finS Post Shun Wg) hG hd htb hturns hsv hK hw hxR hN ha ⟨rfl,rfl,rfl,rfl,rfl,rfl⟩ h13 hi.x.im.wg hlive
end
end Go.Proofs.YtkfafknliihabaaDoor
namespace Go.Proofs.YtkfafknliihabaaDoor
open Go.RowKit Go.Mt Go.Conc Go.Tt Go.Conc.Lib Go.ConcR.Gen
def ghostS (w : World) : World:=(w.alloc waste).alloc (.cells #[.chan (some w.heap.size)] 85)
section
variable {Post : Value -> World -> Prop} {Shun : Loc -> Prop} {W0 : World} {St : Nat -> Prop} {sv : List (Nat × List UInt8)} {K R : Pr} {base : List Frame} {D : ChD} {X : Nat -> Bool} {w W W4 : World}
theorem phase_rel (hw : WRel (SF fsF) K R (prGp Tryd.prog) St w W) (hst : St3 W W4) : WRel (SF fsF) (K.add w.heap.size W.heap.size) (R.add (w.heap.size + 1) (W.heap.size + 1)) (prGp Tryd.prog) St (ghostS w) W4:=by
 have hlt : ∀ a b,(R.or K) a b -> b < W.heap.size:=λ a b x => (hw.lt a b x).2
 have r2:=WRel.real (W':=W4) hw (λ a b x => hst.keep b (hlt a b (.inl x))) (by rw [hst.size]; omega)
 have r3:=WRel.pushK r2 (N:=W.heap.size) (by rw [hst.size]; omega) (λ a x => by have:=hlt a _ x; omega)
 have e1 : (w.alloc waste).heap.size = w.heap.size + 1:=size_push _ _
 have r4:=WRel.pushR (St':=St) r3 (N:=W.heap.size + 1) (o:=.cells #[.chan (some w.heap.size)] 85) (by have:=hw.gle.2; omega) (λ a x => ?_) hst.b1 ?_ (λ a x _ => x) (λ x => ?_)
 ·rw [e1] at r4; exact r4
 ·rcases x with x | x | ⟨_,e⟩
  ·have:=hlt a _ (.inl x); omega
  ·have:=hlt a _ (.inr x); omega
  ·omega
 ·exact .cells (ArR.one (.chan (.some (.inr (.inr ⟨rfl,rfl⟩))))) λ o ho => ho
 ·obtain ⟨⟨b,hb⟩,_⟩:=hw.st _ x
  have:=(hw.lt _ b (.inl hb)).1
  rw [e1] at this; omega
set_option maxHeartbeats 4000000 in
set_option maxRecDepth 100000 in
theorem serve_phase (hw : WRel (SF fsF) K R (prGp Tryd.prog) St w W) (hsh : Sh W0.heap.size Shun R W) (hk : Kp W0 R St W) (hst : St3 W W4) (hgc : D.gc = w.heap.size) (hgv : D.gv = w.heap.size + 1) (hG : GoW D X (ghostS w)) (hd : deedsB D.rooms D.ds = true) (htb : tableB D.ts D.rooms.length = true) (hturns : D.turns <= 40) (hsv : sv = serveF D.ts D.around D.turns (runF D.rooms D.ds).1 0)
  (hdom : ∀ a,X a = true -> a ≠ D.gv -> ∃ b,R a b) {t : Array Value} {u16 u17 u18 u19 u20 u21 u22 u23 u24 u25 u26 u27 u28 : Value} (ha : ArR (SF fsF) K R #[.slice D.A1 D.n1 D.c1,.slice D.A2 D.n2 D.c2,.slice D.A3 D.n3 D.c3,.int .i64 D.turns,.bool D.around,.pointer (some ⟨D.g2,0,none⟩),.pointer (some ⟨D.g3,0,none⟩),.pointer (some ⟨D.g5,0,none⟩),.pointer (some ⟨D.g4,0,none⟩),.pointer (some ⟨D.g6,0,none⟩),.slice none 0 0,.bool false,undef,undef,undef,undef,u16,u17,u18,u19,u20,u21,u22,u23,u24,u25,u26,u27,u28,undef,undef,undef,undef,undef,undef,undef,undef,undef,undef,undef,undef,undef,undef] t)
  (hafter : AfterS Post Shun W0 St (W.heap.size + 2) sv (K.add w.heap.size W.heap.size) (R.add (w.heap.size + 1) (W.heap.size + 1)) base X (ghostS w)) :
  J Tryd.prog Post Shun (W.heap.size + 2) (G ((Conc.base 33).at ⟨tmps3 t W.heap.size,[]⟩ [.code tailSM]) base) W4:=by
 have hrel:=phase_rel hw hst
 have hlt : ∀ a b,R a b -> b < W.heap.size:=λ a b x => (hw.lt a b (.inl x)).2
 have hlt2 : ∀ a b,(R.add (w.heap.size + 1) (W.heap.size + 1)) a b -> b < W.heap.size \/ b = W.heap.size + 1:=λ a b x => x.imp (hlt a b) And.right
 have hW0 : W0.heap.size <= W.heap.size:=hk.size
 have hRle : R.le (R.add (w.heap.size + 1) (W.heap.size + 1)):=Pr.le_add _ _ _
 have hKle : K.le (K.add w.heap.size W.heap.size):=Pr.le_add _ _ _
 generalize hR2 : R.add (w.heap.size + 1) (W.heap.size + 1) = R2 at hrel hlt2 hRle hafter
 have hR2' : ∀ a b,R2 a b -> R a b \/ (a = w.heap.size + 1 /\ b = W.heap.size + 1):=λ a b x => by rw [<- hR2] at x; exact x
 have hR2n : R2 (w.heap.size + 1) (W.heap.size + 1):=by rw [<- hR2]; exact .inr ⟨rfl,rfl⟩
 have hk4 : Kp W0 R2 St W4:=⟨hst.os.trans hk.os,hst.tape.trans hk.tape,hst.output.trans hk.output,by rw [hst.size]; omega,λ b hb => (hst.keep b (by omega)).trans (hk.block b hb),λ a b x hb => by
  rcases hR2' a b x with y | ⟨_,rfl⟩
  ·exact hk.old a b y hb
  ·omega⟩
 have hsh4 : Sh W0.heap.size Shun R2 W4:=⟨hsh.old,λ a b x l hl => by
  rcases hR2' a b x with y | ⟨_,rfl⟩
  ·exact hsh.rel a b y l hl
  ·exact hsh.new l _ hl (by omega),λ l b hl hb => hsh.new l b hl (by rw [hst.size] at hb; omega)⟩
 have hwgR : ∀ a b,R2 a b -> b ≠ W.heap.size + 2:=λ a b x => by have:=hlt2 a b x; omega
 have hsh5 : Sh W0.heap.size (shunS Shun (W.heap.size + 2)) R2 W4:=by
  refine ⟨λ l b hl hb hx => ?_,λ a b x l hl hx => ?_,λ l b hl hb hx => ?_⟩
  ·rcases hx with hx | hx
   ·exact hsh4.old l b hl hb hx
   ·have:=onB_inj hl hx; omega
  ·rcases hx with hx | hx
   ·exact hsh4.rel a b x l hl hx
   ·exact hwgR a b x (onB_inj hl hx)
  ·rcases hx with hx | hx
   ·exact hsh4.new l b hl hb hx
   ·have:=onB_inj hl hx; have:=hst.size; omega
 have hN : ∀ a,¬ R2 a W.heap.size:=λ a x => by have:=hlt2 a _ x; omega
 refine J.phase (pipe_ok W.heap.size sv.length (srvVal sv)) (ty:=wgl.tWg) (Wg:=W.heap.size + 2) (l:=.m0) (τ:=tauP R2 St W0 [W.heap.size]) ?hb hst.b2 ⟨Nat.le_refl _,by rw [hst.size]; omega⟩ ?bnd rfl (.a .m0 (.inl rfl) rfl λ i hi => by simp [hi])
 case bnd =>
  have hr : ∀ a b,R2 a b -> b < W4.heap.size /\ b ≠ W.heap.size + 2 /\ ∀ l,onB l b -> ¬ Shun l:=λ a b x => ⟨(hrel.lt a b (.inl x)).2,hwgR a b x,hsh4.rel a b x⟩
  rintro b ((⟨a,x,_⟩ | hb) | (hb | ⟨a,x,_⟩) | hb)
  ·exact hr a b x
  ·obtain rfl:=List.mem_singleton.1 hb
   exact ⟨by rw [hst.size]; omega,by omega,λ l hl => hsh.new l _ hl (Nat.le_refl _)⟩
  ·exact ⟨by rw [hst.size]; omega,by omega,λ l hl => hsh.old l b hl hb⟩
  ·exact hr a b x
  ·exact hb.elim
 case hb =>
  have him : IM2 W0 St (shunS Shun (W.heap.size + 2)) (W.heap.size + 2) (tauP R2 St W0 [W.heap.size]).still R2 (λ _ => False) W4 [W.heap.size] R2 (tauP R2 St W0 [W.heap.size]) W4:=
   im2_p hrel hk4 hsh5 (by rw [hst.size]; omega) (λ c hc => by obtain rfl:=List.mem_singleton.1 hc; exact ⟨by omega,hW0,hst.b0,hN⟩) hwgR
  let Cm:=servM (W.heap.size + 2) W.heap.size sv.length (srvVal sv) (finS Post Shun (W.heap.size + 2)) (K.add w.heap.size W.heap.size) St (withLive wgl.tWg (W.heap.size + 2) (IM2 W0 St (shunS Shun (W.heap.size + 2)) (W.heap.size + 2) (tauP R2 St W0 [W.heap.size]).still R2 (λ _ => False) W4 [W.heap.size])) base
  have hSS : ∀ b,b < W0.heap.size -> (tauP R2 St W0 [W.heap.size]).still b:=λ b hb => .inl hb
  have hC : IOk Cm:=im2_ok (C:=Cm) rfl (λ a h => h) hSS (λ b h => h.elim) (by show W0.heap.size <= W.heap.size + 2; omega)
  have hX : IX wgl.tWg Cm.Wg (IM2 W0 St (shunS Shun (W.heap.size + 2)) (W.heap.size + 2) (tauP R2 St W0 [W.heap.size]).still R2 (λ _ => False) W4 [W.heap.size]):=im2_ix hSS (λ b h => h.elim) (by show W0.heap.size <= W.heap.size + 2; omega)
  have hx : XOk R2 X (ghostS w):=⟨λ a h => by
   by_cases e : a = D.gv
   ·subst e; exact ⟨_,by rw [hgv]; exact hR2n⟩
   ·obtain ⟨b,hb⟩:=hdom a h e; exact ⟨b,hRle _ _ hb⟩,hG.cells⟩
  have hK2 : (K.add w.heap.size W.heap.size) D.gc W.heap.size:=.inr ⟨hgc,rfl⟩
  have hB : BO Cm .m0 ⟨33,#[.slice D.A1 D.n1 D.c1,.slice D.A2 D.n2 D.c2,.slice D.A3 D.n3 D.c3,.int .i64 D.turns,.bool D.around,.pointer (some ⟨D.g2,0,none⟩),.pointer (some ⟨D.g3,0,none⟩),.pointer (some ⟨D.g5,0,none⟩),.pointer (some ⟨D.g4,0,none⟩),.pointer (some ⟨D.g6,0,none⟩),.slice none 0 0,.bool false,.pointer (some ⟨D.gv,0,none⟩),.nilFunc,undef,undef,u16,u17,u18,u19,u20,u21,u22,u23,u24,u25,u26,u27,u28,.chan (some D.gc),undef,undef,undef,undef,undef,undef,undef,undef,undef,undef,undef,undef,undef],[.code tailSM],false⟩ (ghostS w):=by
   rw [tailSM_eq]
   refine BO.seq hC ?_
   have hgo:=λ ops5 => serve_go (Post:=Post) (Shun:=Shun) (W0:=W0) (W4:=W4) (ops5:=ops5) (u16:=u16) (u17:=u17) (u18:=u18) (u19:=u19) (u20:=u20) (u21:=u21) (u22:=u22) (u23:=u23) (u24:=u24) (u25:=u25) (u26:=u26) (u27:=u27) (u28:=u28) hG hd htb hturns hsv hK2 hx hSS (by omega) hafter
   generalize hk0 : ([Item.code (.seq rSM6 (.seq rSM7 (.seq (.seq rSM8 (.block 0 (.loop loopSM))) (.seq rSM12 (.seq rSM13 .ret)))))] : List Item) = K0 at hgo ⊢
   simp only [rSM5,tailSM,bodySM,Tryd.f33,Option.getD_some]
   refine BO.regs hC [0] rfl ?_
   exact BO.add (C:=Cm) (Lk:=wgl) (s:=13) wgLib rfl rfl rfl hC rfl hX (o:=_) rfl rfl rfl (List.mem_singleton.2 rfl) (by intro s hs; cases hs; show (30 : Nat) ∉ ([13] : List Nat); decide) rfl (hgo _)
  have hm:=hB R2 W4 ⟨33,tmps3 t W.heap.size,[.code tailSM],false⟩ (tauP R2 St W0 [W.heap.size]) hrel ⟨rfl,rfl,rfl,?_,λ x hx => ?_⟩ terra_p ⟨him,⟨0,0,hst.b2⟩⟩
  ·rw [Cx.B_none (C:=Cm) rfl,fx_at] at hm
   exact hm
  ·have h1:=(((ArR.monoK hKle (ha.mono hRle)).set 29 (v:=.chan (some D.gc)) (v':=.chan (some W.heap.size)) (.chan (.some (.inr hK2)))).set 12 (v:=.pointer (some ⟨D.gv,0,none⟩)) (v':=.pointer (some ⟨W.heap.size + 1,0,none⟩)) (.pointer (.some (.mk (by rw [hgv]; exact hR2n))))).set 13 (.junk (v':=.pointer (some ⟨W.heap.size + 2,0,none⟩)) (by exact True.intro))
   rw [gT_eq,gT_eq2] at h1
   exact h1
  ·obtain rfl:=List.mem_singleton.1 hx
   show (tmps3 t W.heap.size).getD 13 undef = _
   have hsz : t.size = 43:=ha.1.symm
   unfold tmps3
   simp [Array.getD_eq_getD_getElem?,hsz]
end
end Go.Proofs.YtkfafknliihabaaDoor
namespace Go.Proofs.YtkfafknliihabaaDoor
open Go.RowKit Go.Mt Go.Conc Go.Tt Go.Conc.Lib Go.ConcR.Gen
abbrev JS (St : Nat -> Prop) (W0 : World) (Post : Value -> World -> Prop) (m : Fm) (ms : List Fm) (w : World) : Prop:=JL Tryd.prog (inL olL) (inL alL) fsF St W0 Post m ms w
def BlkU (w : World) (A : Option Addr) : Prop:=∀ x,A = some x -> ∃ c T fz,w.heap[x.block]? = some (.cells c T fz) /\ ∀ v ∈ c,Uni v
def TabU (w : World) : Prop:=∀ g,tabOk Tryd.prog g = true -> ∃ c T fz,w.heap[g]? = some (.cells c T fz) /\ ∀ v ∈ c,Uni v
theorem rel_heap {S : FuncId -> Prop} {K R : Pr} {G : Gp} {St : Nat -> Prop} {w w' W : World} (h : WRel S K R G St w W) (e : w'.heap = w.heap) : WRel S K R G St w' W:=by
 refine ⟨h.inj,h.inj',λ a b x => by rw [e]; exact h.lt a b x,h.low,by rw [e]; exact h.gle,λ a b x => ?_,λ a b x hn => ?_,λ a x => ?_,λ a c y hp => ?_,h.tb⟩
 ·rw [e]; exact h.cont a b x
 ·rw [e]; exact h.rest a b x hn
 ·rw [e]; exact h.st a x
 ·rw [e] at hp; exact h.np a c y hp
theorem JS.heap {St : Nat -> Prop} {W0 : World} {Post : Value -> World -> Prop} {m : Fm} {ms : List Fm} {w w' : World} (h : JS St W0 Post m ms w) (e : w'.heap = w.heap) : JS St W0 Post m ms w':=
 λ K R W m' ms' Shun a b c d k => h K R W m' ms' Shun (rel_heap a e.symm) b c d k
structure BxT (w w' : World) (v0 v1 v2 v3 v4 : Value) : Prop where
 b0 : w'.heap[w.heap.size]? = some (.cells #[v0] 23)
 b1 : w'.heap[w.heap.size + 1]? = some (.cells #[v1] 24)
 b2 : w'.heap[w.heap.size + 2]? = some (.cells #[v2] 24)
 b3 : w'.heap[w.heap.size + 3]? = some (.cells #[v3] 3)
 b4 : w'.heap[w.heap.size + 4]? = some (.cells #[v4] 4)
 size : w.heap.size + 5 <= w'.heap.size
 block : ∀ b,b < w.heap.size -> w'.heap[b]? = w.heap[b]?
theorem slc_blocks {w w' : World} {s n c : Nat} {A : Option Addr} {xs : List Value} (h : Slc w 0 w.heap.size s A n c xs) (hs : w.heap.size <= w'.heap.size) (hb : ∀ b,b < w.heap.size -> w'.heap[b]? = w.heap[b]?) : Slc w' 0 w'.heap.size s A n c xs:=
 (h.keep hs λ b _ q _ => hb b q).wide (Nat.le_refl _) hs
theorem blkU_lt {w : World} {A : Option Addr} (h : BlkU w A) {x : Addr} (e : A = some x) : x.block < w.heap.size:=by
 obtain ⟨c,T,fz,hc,_⟩:=h x e
 exact (Array.getElem?_eq_some_iff.1 hc).1
theorem ghostS_size (w : World) : (ghostS w).heap.size = w.heap.size + 2:=by unfold ghostS; rw [size_push,size_push]
theorem ghostS_lt {w : World} {b : Nat} (h : b < w.heap.size) : (ghostS w).heap[b]? = w.heap[b]?:=by
 unfold ghostS
 rw [heap_push_lt (by rw [size_push]; omega),heap_push_lt h]
theorem ghostS_box (w : World) : (ghostS w).heap[w.heap.size + 1]? = some (.cells #[.chan (some w.heap.size)] 85):=by
 unfold ghostS
 rw [<- size_push w waste,heap_push]
noncomputable def xS (N0 gv : Nat) (A1 A2 A3 : Option Addr) (a : Nat) : Bool:=
 a == N0 || a == N0 + 1 || a == N0 + 2 || a == N0 + 3 || a == N0 + 4 || a == gv || (A1.map (·.block)) == some a || (A2.map (·.block)) == some a || (A3.map (·.block)) == some a || tabOk Tryd.prog a
theorem xS_cases {N0 gv : Nat} {A1 A2 A3 : Option Addr} {a : Nat} (h : xS N0 gv A1 A2 A3 a = true) : a = N0 \/ a = N0 + 1 \/ a = N0 + 2 \/ a = N0 + 3 \/ a = N0 + 4 \/ a = gv \/ (∃ x,A1 = some x /\ x.block = a) \/ (∃ x,A2 = some x /\ x.block = a) \/ (∃ x,A3 = some x /\ x.block = a) \/ tabOk Tryd.prog a = true:=by
 unfold xS at h
 simp only [Bool.or_eq_true,beq_iff_eq,Option.map_eq_some_iff] at h
 rcases h with ((((((((h | h) | h) | h) | h) | h) | h) | h) | h) | h <;> simp_all
section
variable {w0 w : World} {A1 A2 A3 : Option Addr} {n1 c1 n2 c2 n3 c3 : Nat} {rooms : List Int} {ds ts : List DeedD} {tn : Nat} {ar : Bool}
def mkD (N0 N : Nat) (A1 : Option Addr) (n1 c1 : Nat) (A2 : Option Addr) (n2 c2 : Nat) (A3 : Option Addr) (n3 c3 : Nat) (rooms : List Int) (ds ts : List DeedD) (tn : Nat) (ar : Bool) : ChD:=
 { gc:=N,gv:=N + 1,g2:=N0,g3:=N0 + 1,g4:=N0 + 3,g5:=N0 + 2,g6:=N0 + 4,A1:=A1,n1:=n1,c1:=c1,A2:=A2,n2:=n2,c2:=c2,A3:=A3,n3:=n3,c3:=c3,rooms:=rooms,ds:=ds,ts:=ts,turns:=tn,around:=ar }
theorem goW_mk (hB : BxT w0 w (.slice A1 n1 c1) (.slice A2 n2 c2) (.slice A3 n3 c3) (.int .i64 tn) (.bool ar)) (h1 : Slc w0 0 w0.heap.size 1 A1 n1 c1 (ints rooms)) (h2 : Slc w0 0 w0.heap.size 3 A2 n2 c2 (deeds ds)) (h3 : Slc w0 0 w0.heap.size 3 A3 n3 c3 (deeds ts)) (hT : TabW w0) (hTU : TabU w0) (hU1 : BlkU w0 A1) (hU2 : BlkU w0 A2) (hU3 : BlkU w0 A3) :
  GoW (mkD w0.heap.size w.heap.size A1 n1 c1 A2 n2 c2 A3 n3 c3 rooms ds ts tn ar) (xS w0.heap.size (w.heap.size + 1) A1 A2 A3) (ghostS w):=by
 have z:=hB.size
 have lift : ∀ {b : Nat},b < w0.heap.size -> (ghostS w).heap[b]? = w0.heap[b]?:=λ {b} hb => (ghostS_lt (by omega)).trans (hB.block b hb)
 have bl : ∀ {i : Nat} {c : Array Value} {T : TypeId} {fz : Nat × Nat},w.heap[w0.heap.size + i]? = some (.cells c T fz) -> (ghostS w).heap[w0.heap.size + i]? = some (.cells c T fz):=λ {i c T fz} h => (ghostS_lt (Array.getElem?_eq_some_iff.1 h).1).trans h
 have e0:=bl (i:=0) hB.b0
 have e1:=bl hB.b1
 have e2:=bl hB.b2
 have e3:=bl hB.b3
 have e4:=bl hB.b4
 have sl : ∀ {s n c : Nat} {A : Option Addr} {xs : List Value},Slc w0 0 w0.heap.size s A n c xs -> Slc (ghostS w) 0 (ghostS w).heap.size s A n c xs:=λ h => slc_blocks h (by rw [ghostS_size]; omega) (λ b hb => lift hb)
 have xx : ∀ {i : Nat},i <= 4 -> xS w0.heap.size (w.heap.size + 1) A1 A2 A3 (w0.heap.size + i) = true:=λ {i} hi => by
  have : i = 0 \/ i = 1 \/ i = 2 \/ i = 3 \/ i = 4:=by omega
  rcases this with rfl | rfl | rfl | rfl | rfl <;> simp [xS]
 have xa1 : ∀ x,A1 = some x -> xS w0.heap.size (w.heap.size + 1) A1 A2 A3 x.block = true:=λ x e => by simp [xS,e]
 have xa2 : ∀ x,A2 = some x -> xS w0.heap.size (w.heap.size + 1) A1 A2 A3 x.block = true:=λ x e => by simp [xS,e]
 have xa3 : ∀ x,A3 = some x -> xS w0.heap.size (w.heap.size + 1) A1 A2 A3 x.block = true:=λ x e => by simp [xS,e]
 have uc : ∀ {A : Option Addr} {x : Addr},BlkU w0 A -> A = some x -> ∃ c T fz,(ghostS w).heap[x.block]? = some (.cells c T fz) /\ ∀ v ∈ c,Uni v:=λ {A x} hU e => by
  obtain ⟨c,T,fz,hc,hu⟩:=hU x e
  exact ⟨c,T,fz,(lift (blkU_lt hU e)).trans hc,hu⟩
 have all : ∀ a,xS w0.heap.size (w.heap.size + 1) A1 A2 A3 a = true -> ∃ c T fz,(ghostS w).heap[a]? = some (.cells c T fz) /\ ∀ v ∈ c,InX (λ a => xS w0.heap.size (w.heap.size + 1) A1 A2 A3 a = true) (λ a => a = w.heap.size) v:=λ a ha => by
  rcases xS_cases ha with rfl | rfl | rfl | rfl | rfl | rfl | ⟨x,e,rfl⟩ | ⟨x,e,rfl⟩ | ⟨x,e,rfl⟩ | hg
  ·refine ⟨_,_,_,e0,λ v hv => ?_⟩
   obtain rfl:=by simpa using hv
   exact .slice xa1
  ·refine ⟨_,_,_,e1,λ v hv => ?_⟩
   obtain rfl:=by simpa using hv
   exact .slice xa2
  ·refine ⟨_,_,_,e2,λ v hv => ?_⟩
   obtain rfl:=by simpa using hv
   exact .slice xa3
  ·refine ⟨_,_,_,e3,λ v hv => ?_⟩
   obtain rfl:=by simpa using hv
   exact .int _ _
  ·refine ⟨_,_,_,e4,λ v hv => ?_⟩
   obtain rfl:=by simpa using hv
   exact .bool _
  ·refine ⟨_,_,_,ghostS_box w,λ v hv => ?_⟩
   obtain rfl:=by simpa using hv
   exact .chan λ x e => by cases e; rfl
  ·obtain ⟨c,T,fz,hc,hu⟩:=uc hU1 e
   exact ⟨c,T,fz,hc,λ v hv => (hu v hv).inX⟩
  ·obtain ⟨c,T,fz,hc,hu⟩:=uc hU2 e
   exact ⟨c,T,fz,hc,λ v hv => (hu v hv).inX⟩
  ·obtain ⟨c,T,fz,hc,hu⟩:=uc hU3 e
   exact ⟨c,T,fz,hc,λ v hv => (hu v hv).inX⟩
  ·obtain ⟨c,T,fz,hc,hu⟩:=hTU a hg
   exact ⟨c,T,fz,(lift (Array.getElem?_eq_some_iff.1 hc).1).trans hc,λ v hv => (hu v hv).inX⟩
 refine ⟨by simp [xS,mkD],xx (i:=0) (by omega),xx (i:=1) (by omega),xx (i:=3) (by omega),xx (i:=2) (by omega),xx (i:=4) (by omega),blk_cell (ghostS_box w) 0,blk_cell e0 0,blk_cell e1 0,blk_cell e3 0,blk_cell e2 0,blk_cell e4 0,sl h1,sl h2,sl h3,xa1,xa2,xa3,?_,λ g hg => by simp [xS,hg],λ a ha => ?_,λ a c T fz ha hc => ?_⟩
 ·have hb : Below w0.heap.size w0 { ghostS w with os:=w0.os,tape:=w0.tape,output:=w0.output }:=⟨rfl,rfl,rfl,by show w0.heap.size <= (ghostS w).heap.size; rw [ghostS_size]; omega,λ b hb => lift hb⟩
  exact tabIs_heap (w:={ ghostS w with os:=w0.os,tape:=w0.tape,output:=w0.output }) rfl (hT.below hb)
 ·obtain ⟨c,T,fz,hc,_⟩:=all a ha
  exact ⟨c,T,fz,hc⟩
 ·obtain ⟨c',T',fz',hc',hu⟩:=all a ha
  rw [hc] at hc'
  injection hc' with hc'
  injection hc' with e1 _ _
  subst e1
  exact hu
end
end Go.Proofs.YtkfafknliihabaaDoor
namespace Go.Proofs.YtkfafknliihabaaDoor
open Go.RowKit Go.Mt Go.Conc Go.Tt Go.Conc.Lib Go.ConcR.Gen
theorem serve_tmps (a b c d e : Value) : (#[a,b,c,d,e] : Array Value) ++ Array.replicate (43 - (#[a,b,c,d,e] : Array Value).size) undef = #[a,b,c,d,e,undef,undef,undef,undef,undef,undef,undef,undef,undef,undef,undef,undef,undef,undef,undef,undef,undef,undef,undef,undef,undef,undef,undef,undef,undef,undef,undef,undef,undef,undef,undef,undef,undef,undef,undef,undef,undef,undef]:=by
 have h : (#[a,b,c,d,e] : Array Value).size = 5:=by simp
 rw [h]
 apply Array.ext'
 simp only [Array.toList_append,Array.toList_replicate]
 rfl
theorem BxT.tp {w w' : World} {v0 v1 v2 v3 v4 : Value} (h : BxT w w' v0 v1 v2 v3 v4) (T : Tape) (e : Nat) : BxT w (Tt.tp w' T e) v0 v1 v2 v3 v4:=⟨h.b0,h.b1,h.b2,h.b3,h.b4,h.size,h.block⟩
theorem Boxes.t {w w' : World} {v0 v1 v2 v3 v4 : Value} {T : Tape} {e : Nat} (h : Boxes (Tt.tp w T e) w' v0 v1 v2 v3 v4) : BxT w w' v0 v1 v2 v3 v4:=⟨h.b0,h.b1,h.b2,h.b3,h.b4,h.size,h.below.block⟩
theorem BxT.b {w w' : World} {v0 v1 v2 v3 v4 : Value} (h : BxT w w' v0 v1 v2 v3 v4) : Boxes { w with os:=w'.os,tape:=w'.tape,output:=w'.output } w' v0 v1 v2 v3 v4:=⟨h.b0,h.b1,h.b2,h.b3,h.b4,h.size,⟨rfl,rfl,rfl,by have:=h.size; show w.heap.size <= _; omega,h.block⟩⟩
theorem BxT.keep {w w1 w2 : World} {v0 v1 v2 v3 v4 : Value} (h : BxT w w1 v0 v1 v2 v3 v4) (hb : Below w1.heap.size w1 w2) : BxT w w2 v0 v1 v2 v3 v4:=
 ⟨(blk_below hb h.b0).1,(blk_below hb h.b1).1,(blk_below hb h.b2).1,(blk_below hb h.b3).1,(blk_below hb h.b4).1,Nat.le_trans h.size hb.size,λ b hb' => (hb.block b (by have:=h.size; omega)).trans (h.block b hb')⟩
structure Servd (w wn : World) (A : Option Addr) (n c : Nat) (sv : List (Nat × List UInt8)) : Prop where
 own : OwnV 31 2 wn w.heap.size wn.heap.size A n c (svals sv)
 len : n = sv.length
 below : Below w.heap.size w wn
theorem servd_mk {w0 w2 wn : World} {X : Nat -> Bool} {sv : List (Nat × List UInt8)} {g cO : Nat} (hk : ∀ b,b < w0.heap.size -> w2.heap[b]? = w0.heap[b]?) (hz : w0.heap.size <= w2.heap.size) (hX : ∀ a,X a = true -> ∃ c T fz,w2.heap[a]? = some (.cells c T fz)) (hS : SvT (frX X w2).heap.size (frX X w2) sv sv.length g cO wn) :
  Servd w0 { thX X w2 wn with os:=w0.os,tape:=w0.tape,output:=w0.output } (some ⟨g,0,none⟩) sv.length cO sv:=by
 have hs:=hS.size
 rw [frX_size] at hs
 have hown:=hS.own
 rw [List.take_length,frX_size] at hown
 have hXl : ∀ a,X a = true -> a < w2.heap.size:=λ a h => by
  obtain ⟨c,T,fz,hc⟩:=hX a h
  exact (Array.getElem?_eq_some_iff.1 hc).1
 have hblk : ∀ b,w2.heap.size <= b -> (thX X w2 wn).heap[b]? = wn.heap[b]?:=λ b hb => thX_out (by
  cases e : X b with
  | false => rfl
  | true => have:=hXl b e; omega)
 have hg:=(row_blk hown).1
 have hrow : (thX X w2 wn).ownsRow w2.heap.size 31 2 (.slice (some ⟨g,0,none⟩) sv.length cO) sv.length (svals sv):=row_at hown (hblk g hg)
 refine ⟨?_,rfl,rfl,rfl,rfl,?_,λ b hb => ?_⟩
 ·obtain ⟨A',c',e',o⟩:=ownV_of_row hrow (by decide)
  injection e' with e1 e2 e3
  subst e1 e3
  have o':=o.wide hz (Nat.le_refl _)
  exact ⟨⟨o'.slc.len,o'.slc.le,o'.slc.cap,o'.slc.at_⟩,o'.blk⟩
 ·show w0.heap.size <= (thX X w2 wn).heap.size
  rw [thX_size]; omega
 ·show (thX X w2 wn).heap[b]? = _
  cases e : X b with
  | true =>
   obtain ⟨c,T,fz,hc⟩:=hX b e
   rw [thX_in e (by omega) hc,<- hc,hk b hb]
  | false =>
   rw [thX_out e,hS.block b (by rw [frX_size]; omega),frX_out e,hk b hb]
section
variable {St : Nat -> Prop} {W0 : World} {Post : Value -> World -> Prop}
set_option maxHeartbeats 4000000 in
set_option maxRecDepth 100000 in
theorem jo_serve {m : Fm} {ms : List Fm} {w : World} {ops : Array Oper} {i : Nat} {rest : List Nat} {k : List Item} {o : Oper} {args : Array Operand} {ats : Array TypeId} {A1 A2 A3 : Option Addr} {n1 c1 n2 c2 n3 c3 : Nat} {rooms : List Int} {ds ts : List DeedD} {tn : Int} {ar : Bool}
  (hr : m.ret = false) (htd : m.todo = .inRegion ops (i :: rest) :: k) (ho : ops[i]? = some o) (hwt : Region.wanted o (yielded ops m.tmps) = true) (hop : o.op = .call ⟨.value (.func 33),args,ats⟩) (hargs : args.all (okX fsF) = true)
  (hv : args.map m.eval = #[.slice A1 n1 c1,.slice A2 n2 c2,.slice A3 n3 c3,.int .i64 tn,.bool ar]) (h1 : Slc w 0 w.heap.size 1 A1 n1 c1 (ints rooms)) (h2 : Slc w 0 w.heap.size 3 A2 n2 c2 (deeds ds)) (h3 : Slc w 0 w.heap.size 3 A3 n3 c3 (deeds ts)) (hn1 : n1 <= 1048576) (hn2 : n2 <= 1048576) (hn3 : n3 <= 1048576)
  (hT : TabW w) (hTU : TabU w) (hU1 : BlkU w A1) (hU2 : BlkU w A2) (hU3 : BlkU w A3)
  (hJ1 : okS rooms ds ts tn = false -> ∀ wn,Below w.heap.size w wn -> JS St W0 Post (m.fin ops i rest k (.tuple #[.slice none 0 0,.bool false])) ms wn)
  (hJ2 : okS rooms ds ts tn = true -> ∀ wn A n c,Servd w wn A n c (serveF ts ar tn.toNat (runF rooms ds).1 0) -> JS St W0 Post (m.fin ops i rest k (.tuple #[.slice A n c,.bool true])) ms wn) : JS St W0 Post m ms w:=by
 refine JO.callF lvF hr htd ho hwt hop rfl hargs λ K R W m' ms' Shun xs' hw hm hms hsh hk hxs => ?_
 rw [hv] at hxs
 have hpl : plainRes (Tryd.f33).results.toList:=.inr (.inr (.inl ⟨_,_,rfl⟩))
 have hnt : (Tryd.f33).ntmps = 43:=rfl
 have hpad:=hxs.pad 43
 rw [serve_tmps] at hpad
 rw [enter_fr (c:=bodySM) Tryd.func33 rfl,hnt]
 let C:=aloneCx Tryd.prog gsF fsF Post Shun W0 St K R (m'.fr :: ms'.map Fm.fr)
 have hC : IOk C:=alone_ok
 have F : Fit3 C.P C.fs:=fitF
 have fok : FnOk C.p 33:=⟨_,Tryd.func33,hpl⟩
 refine BO.aloneIn (p:=Tryd.prog) (gs:=gsF) (fs:=fsF) (St:=St) (K:=K) (R:=R) (m:=⟨33,#[.slice A1 n1 c1,.slice A2 n2 c2,.slice A3 n3 c3,.int .i64 tn,.bool ar,undef,undef,undef,undef,undef,undef,undef,undef,undef,undef,undef,undef,undef,undef,undef,undef,undef,undef,undef,undef,undef,undef,undef,undef,undef,undef,undef,undef,undef,undef,undef,undef,undef,undef,undef,undef,undef,undef],[.code bodySM],false⟩) ?_ hw ⟨rfl,rfl,rfl,hpad,λ x hx => by cases hx⟩ hsh hk
 show BO C _ _ _
 rw [bodySM_eq]
 refine BO.seq hC ?_
 refine BO.piece (C:=C) F hC (by kernel_rfl) fok (by kernel_rfl) (λ T => ?_)
 refine wpSM0 λ w1 hb1 => ⟨rfl,?_⟩
 replace hb1:=hb1.t
 have hz0 : (Tt.tp w T 0).heap.size = w.heap.size:=rfl
 rw [hz0]
 clear hz0
 refine BO.seq hC ?_
 refine BO.seq hC ?_
 refine BO.piece (C:=C) F hC (by kernel_rfl) fok (by kernel_rfl) (λ T => ?_)
 replace hb1:=hb1.tp T 0
 generalize Tt.tp w1 T 0 = w2 at hb1 ⊢
 have z1:=hb1.size
 have hB:=hb1.b
 refine wpSM1 (w0:={ w with os:=w2.os,tape:=w2.tape,output:=w2.output }) hB (slc_blocks h1 (by omega) hb1.block) (slc_blocks h2 (by omega) hb1.block) (slc_blocks h3 (by omega) hb1.block) hn1 hn2 hn3 λ w3 v16 v17 v18 v19 v20 v21 v22 v23 v24 v25 v26 v27 hb => ⟨rfl,?_⟩
 replace hb1:=hb1.keep hb
 clear hB hb
 have hz0 : ({ w with os:=w2.os,tape:=w2.tape,output:=w2.output } : World).heap.size = w.heap.size:=rfl
 rw [hz0]
 clear hz0 z1
 refine BO.cond hC (t:=!okS rooms ds ts tn) rfl rfl ?_
 cases hok : okS rooms ds ts tn with
 | false =>
  simp only [Bool.not_false,if_true]
  refine BO.seq hC ?_
  refine BO.piece (C:=C) F hC (by kernel_rfl) fok (by kernel_rfl) (λ T => ?_)
  refine wpSM2 ⟨rfl,?_⟩
  refine BO.ret hC ?_
  refine BO.aloneOut hm hms rfl hr htd (v:=.tuple #[.slice none 0 0,.bool false]) Tryd.func33 hpl rfl ?_
  have hbel : Below w.heap.size w { Tt.tp w3 T 0 with os:=w.os,tape:=w.tape,output:=w.output }:=⟨rfl,rfl,rfl,by have:=hb1.size; show w.heap.size <= w3.heap.size; omega,hb1.block⟩
  exact JS.heap (hJ1 hok _ hbel) rfl
 | true =>
  simp only [Bool.not_true,Bool.false_eq_true,if_false]
  obtain ⟨hch,ht0,ht40⟩ : choiceB rooms ds ts = true /\ 0 <= tn /\ tn <= 40:=by
   unfold okS at hok
   simp only [Bool.and_eq_true,decide_eq_true_eq] at hok
   exact ⟨hok.1.1,hok.1.2,hok.2⟩
  obtain ⟨q,rfl⟩:=Int.eq_ofNat_of_zero_le ht0
  obtain ⟨hd,htb⟩:=choice_of hch
  refine BO.skip hC ?_
  refine BO.seq hC ?_
  intro R1 W1 m1 τ hw1 hm1 hte hi1
  obtain ⟨fn',t',todo',ret'⟩:=m1
  obtain rfl:=hm1.fn
  obtain rfl:=hm1.todo
  obtain rfl:=hm1.ret
  have hw1 : WRel (SF fsF) K R1 (prGp Tryd.prog) St w3 W1:=hw1
  have hi1 : IA W0 St Shun R R1 τ W1:=hi1
  have ha1 : ArR (SF fsF) K R1 _ t':=hm1.tmps
  have hG:=goW_mk (tn:=q) (ar:=ar) (rooms:=rooms) (ds:=ds) (ts:=ts) hb1 h1 h2 h3 hT hTU hU1 hU2 hU3
  rw [fx_at,Cx.B_some rfl]
  intro _ hnew
  refine serve_start ha1.1.symm hnew λ W4 hst => ?_
  refine serve_phase (D:=mkD w.heap.size w3.heap.size A1 n1 c1 A2 n2 c2 A3 n3 c3 rooms ds ts q ar) hw1 hi1.sh hi1.kp hst rfl rfl hG hd htb (by show q <= 40; omega) rfl (λ a ha hne => ?_) ha1 λ R2 u0 u1 u2 u3 u4 u5 u6 u7 u8 u9 u10 u11 u12 u13 u15 u16 u17 u18 u19 u20 u21 u22 u23 u24 u25 u26 u27 u28 u29 u30 u31 u32 u33 u34 u35 u36 u37 u38 u39 u40 u41 u42 wn g cO hle hS => ?_
  ·have ptr : ∀ {j b : Nat} {v : Value} , (#[Value.slice A1 n1 c1,.slice A2 n2 c2,.slice A3 n3 c3,.int .i64 (q : Int),.bool ar,.pointer (some ⟨w.heap.size,0,none⟩),.pointer (some ⟨w.heap.size + 1,0,none⟩),.pointer (some ⟨w.heap.size + 2,0,none⟩),.pointer (some ⟨w.heap.size + 3,0,none⟩),.pointer (some ⟨w.heap.size + 4,0,none⟩)] : Array Value)[j]? = some v -> j < 10 -> (v = .pointer (some ⟨b,0,none⟩) \/ ∃ x n c,v = .slice (some x) n c /\ x.block = b) -> ∃ b',R1 b b':=λ {j b v} hj hlt hvv => by
    have h0 : VR (SF fsF) K R1 v (t'.getD j undef):=by
     have:=ha1.getD j (vr_undef (S:=SF fsF) (K:=K) (R:=R1))
     have e : j = 0 \/ j = 1 \/ j = 2 \/ j = 3 \/ j = 4 \/ j = 5 \/ j = 6 \/ j = 7 \/ j = 8 \/ j = 9:=by omega
     rcases e with rfl | rfl | rfl | rfl | rfl | rfl | rfl | rfl | rfl | rfl <;> (obtain rfl:=Option.some.inj hj; exact this)
    rcases hvv with rfl | ⟨x,n,c,rfl,rfl⟩
    ·generalize t'.getD j undef = v' at h0
     cases h0 with
     | pointer y => cases y with | some y => cases y with | mk y => exact ⟨_,y⟩
    ·generalize t'.getD j undef = v' at h0
     cases h0 with
     | slice y => cases y with | some y => cases y with | mk y => exact ⟨_,y⟩
   rcases xS_cases ha with rfl | rfl | rfl | rfl | rfl | rfl | ⟨x,e,rfl⟩ | ⟨x,e,rfl⟩ | ⟨x,e,rfl⟩ | hg
   ·exact ptr (j:=5) rfl (by omega) (.inl rfl)
   ·exact ptr (j:=6) rfl (by omega) (.inl rfl)
   ·exact ptr (j:=7) rfl (by omega) (.inl rfl)
   ·exact ptr (j:=8) rfl (by omega) (.inl rfl)
   ·exact ptr (j:=9) rfl (by omega) (.inl rfl)
   ·exact absurd rfl hne
   ·subst e; exact ptr (j:=0) rfl (by omega) (.inr ⟨_,_,_,rfl,rfl⟩)
   ·subst e; exact ptr (j:=1) rfl (by omega) (.inr ⟨_,_,_,rfl,rfl⟩)
   ·subst e; exact ptr (j:=2) rfl (by omega) (.inr ⟨_,_,_,rfl,rfl⟩)
   ·exact ⟨_,hw1.tb a hg⟩
  ·have hRR : R.le R2:=(hi1.le.trans (Pr.le_add _ _ _)).trans hle
   have hKK : K.le (K.add w3.heap.size W1.heap.size):=Pr.le_add _ _ _
   let C2:=aloneCx Tryd.prog gsF fsF Post (shunS Shun (W1.heap.size + 2)) W0 St (K.add w3.heap.size W1.heap.size) R2 (m'.fr :: ms'.map Fm.fr)
   have hC2 : IOk C2:=alone_ok
   have F2 : Fit3 C2.P C2.fs:=fitF
   have fok2 : FnOk C2.p 33:=⟨_,Tryd.func33,hpl⟩
   show BO C2 _ _ _
   refine BO.regEnd hC2 ?_
   refine BO.seq hC2 ?_
   refine BO.piece (C:=C2) F2 hC2 (by kernel_rfl) fok2 (by kernel_rfl) (λ T => ?_)
   refine wpSM13 ⟨rfl,?_⟩
   refine BO.ret hC2 ?_
   refine BO.aloneOut (FmR.monoK hKK (hm.mono hRR)) (MsR.monoK hKK (hms.mono hRR)) rfl hr htd (v:=.tuple #[.slice (some ⟨g,0,none⟩) _ cO,.bool true]) Tryd.func33 hpl rfl ?_
   have hsv:=servd_mk (w0:=w) (λ b hb => (ghostS_lt (by have:=hb1.size; omega)).trans (hb1.block b hb)) (by have:=hb1.size; rw [ghostS_size]; omega) hG.cells hS
   exact JS.heap (hJ2 hok _ _ _ _ hsv) rfl
end
end Go.Proofs.YtkfafknliihabaaDoor
namespace Go.Proofs.YtkfafknliihabaaDoor
open Go.RowKit Go.Mt Go.Conc Go.Tt
section
variable {p : Program} {op gs gs₁ fs : FuncId -> Bool} {St : Nat -> Prop} {W0 : World} {Post : Value -> World -> Prop}
theorem JO.pieceQ (L : Lv p op gs gs₁ fs) {fn : FuncId} {tmps : Array Value} {c : Go.Code} {k : List Item} {b : List Fm} {w : World} (hc : fitCode p ⟨fs,gs₁,false⟩ c = true) (hfn : op fn = false)
  (hwp : ∀ (T : Tape) (Q : Exit -> Go.Act -> World -> Prop),Hid (∀ a' w',JL p op gs fs St W0 Post ⟨fn,a'.tmps,k,false⟩ b w' -> Q .normal a' w') -> Code.wp p c Q ⟨tmps,[]⟩ (Tt.tp w T 0)) :
  JL p op gs fs St W0 Post ⟨fn,tmps,.code c :: k,false⟩ b w:=
 JO.piece L hc hfn λ T => hwp T _ (Lib.hid λ a' w' h => ⟨rfl,h⟩)
theorem JO.tailQ (L : Lv p op gs gs₁ fs) {fn : FuncId} {tmps : Array Value} {c : Go.Code} {b : List Fm} {w : World} (hc : fitCode p ⟨fs,gs₁,false⟩ c = true) (hfn : op fn = false)
  (hwp : ∀ (T : Tape) (Q : Exit -> Go.Act -> World -> Prop),Hid (∀ a' w',(∀ todo,JL p op gs fs St W0 Post ⟨fn,a'.tmps,todo,true⟩ b w') -> Q .ret a' w') -> Code.wp p c Q ⟨tmps,[]⟩ (Tt.tp w T 0)) :
  JL p op gs fs St W0 Post ⟨fn,tmps,[.code c],false⟩ b w:=
 JO.tail L hc hfn λ T => hwp T _ (Lib.hid λ a' w' h => ⟨.inr rfl,h⟩)
end
structure Bl (B : Nat) (w w' : World) : Prop where
 size : w.heap.size <= w'.heap.size
 block : ∀ b,b < B -> w'.heap[b]? = w.heap[b]?
theorem Bl.refl (B : Nat) (w : World) : Bl B w w:=⟨Nat.le_refl _,λ _ _ => rfl⟩
theorem Bl.trans {B : Nat} {a b c : World} (h : Bl B a b) (k : Bl B b c) : Bl B a c:=⟨Nat.le_trans h.size k.size,λ x hx => (k.block x hx).trans (h.block x hx)⟩
theorem Bl.tp {B : Nat} {a b : World} (h : Bl B a b) (T : Tape) (e : Nat) : Bl B a (Tt.tp b T e):=⟨h.size,h.block⟩
theorem Slc.bl {w w' : World} {s n c : Nat} {A : Option Addr} {xs : List Value} (h : Slc w 0 w.heap.size s A n c xs) (k : Bl w.heap.size w w') : Slc w' 0 w'.heap.size s A n c xs:=
 (h.keep k.size λ b _ _ h3 => k.block b h3).wide (Nat.le_refl _) k.size
theorem Slc.tp {w : World} {lo hi s n c : Nat} {A : Option Addr} {xs : List Value} (h : Slc w lo hi s A n c xs) (T : Tape) (e : Nat) : Slc (Tt.tp w T e) lo hi s A n c xs:=⟨h.len,h.le,h.cap,h.at_⟩
theorem Slc.bls {w w' : World} {lo hi s n c B : Nat} {A : Option Addr} {xs : List Value} (h : Slc w lo hi s A n c xs) (k : Bl B w w') (hB : w.heap.size <= B) : Slc w' lo hi s A n c xs:=h.keep k.size λ b _ _ h3 => k.block b (by omega)
end Go.Proofs.YtkfafknliihabaaDoor
namespace Go.Proofs.YtkfafknliihabaaDoor
open Go.RowKit
end Go.Proofs.YtkfafknliihabaaDoor
namespace Go.Proofs.YtkfafknliihabaaDoor
open Go.RowKit Go.Conc
def nextF (r : List Int) (last : Int) : Int:=(r.find? λ x => decide (last < x)).getD (r.headD (-1))
theorem find_at {r : List Int} {p : Int -> Bool} : ∀ {k : Nat} {x : Int},(∀ j,j < k -> ∀ y,r[j]? = some y -> p y = false) -> r[k]? = some x -> p x = true -> r.find? p = some x:=by
 induction r with
 | nil => intro k x _ h; simp at h
 | cons a r ih =>
  intro k x hall hk hp
  cases k with
  | zero => simp at hk; subst hk; simp [hp]
  | succ k =>
   have ha:=hall 0 (by omega) a rfl
   rw [List.find?_cons,ha]
   exact ih (λ j hj y hy => hall (j + 1) (Nat.succ_lt_succ hj) y (by simpa using hy)) (by simpa using hk) hp
theorem find_none {r : List Int} {p : Int -> Bool} (hall : ∀ j,j < r.length -> ∀ y,r[j]? = some y -> p y = false) : r.find? p = none:=by
 rw [List.find?_eq_none]
 intro x hx
 obtain ⟨j,hj,e⟩:=List.mem_iff_getElem.1 hx
 have:=hall j hj x (by rw [List.getElem?_eq_getElem hj,e])
 simp [this]
theorem nextF_at {r : List Int} {last : Int} {k : Nat} {x : Int} (hall : ∀ j,j < k -> ∀ y,r[j]? = some y -> decide (last < y) = false) (hk : r[k]? = some x) (hp : last < x) : nextF r last = x:=by
 unfold nextF; rw [find_at hall hk (by simpa using hp)]; rfl
theorem nextF_none {r : List Int} {last : Int} (hall : ∀ j,j < r.length -> ∀ y,r[j]? = some y -> decide (last < y) = false) : nextF r last = r.headD (-1):=by
 unfold nextF; rw [find_none hall]; rfl
theorem noneF_snoc {p : Int -> Bool} {l : List Int} {k : Nat} {a : Int} (h : ∀ j,j < k -> ∀ b,l[j]? = some b -> p b = false) (hk : l[k]? = some a) (ha : p a = false) : ∀ j,j < k + 1 -> ∀ b,l[j]? = some b -> p b = false:=by
 intro j hj b hb
 by_cases e : j = k
 ·subst e; rw [hk] at hb; injection hb with hb; subst hb; exact ha
 ·exact h j (by omega) b hb
theorem head_at {r : List Int} {x : Int} (h : r[0]? = some x) : r.headD (-1) = x:=by cases r <;> simp_all
set_option maxHeartbeats 2000000 in
theorem spec_l5Next (lo hi n c : Nat) (A : Option Addr) (r : List Int) (last : Int) (w : World) (h : Slc w lo hi 1 A n c (ints r)) (hn : n <= 1048576) :
  Calls Tryd.prog 60 #[.slice A n c,.int .i64 last] w λ e w' => e = .returned (.int .i64 (nextF r last)) /\ w' = w:=by
 have hl:=Lib.hid h.length
 go_enter Tryd.func60, Tryd.ntmps60
 go_wp2
 go_loop [5] (λ i => ∃ k : Nat,k <= n /\ i = .int .i64 k /\ ∀ j,j < k -> ∀ y,r[j]? = some y -> decide (last < y) = false) (λ i => n - (intOf i).toNat)
 case atStart => exact ⟨0,Nat.zero_le _,rfl,λ j hj => absurd hj (by omega)⟩
 case round =>
  obtain ⟨k,hk,rfl,hcs⟩:=hrel
  have HC:=Lib.hid hcs
  clear hcs
  by_cases hlt : k < n
  ·obtain ⟨b,off,x,rfl,_,_,h3,hxk,hv⟩:=h.cellAt hlt
   have HX:=Lib.hid hxk
   have i0' : (0 : Int) <= (k : Int):=by omega
   have i1 : (k : Int) < (n : Int):=by omega
   clear hxk h
   by_cases hx : last < x
   ·have hx':=Lib.hid hx
    go_wp2
    go_ret
    exact ⟨ret_int (nextF_at HC.out HX.out hx'.out).symm,rfl⟩
   ·have hx':=Lib.hid hx
    go_wp2
    go_round
    case rel => exact ⟨k + 1,by omega,by go_num,noneF_snoc HC.out HX.out (by have:=hx'.out; simpa using this)⟩
    case measure => simp [intOf]; omega
  ·have e : k = n:=by omega
   subst e
   have HN:=Lib.hid (nextF_none (last:=last) (r:=r) (by rw [hl.out]; exact HC.out))
   by_cases hz : k = 0
   ·subst hz
    clear h
    go_wp2
    go_ret
    have hr : r = []:=List.eq_nil_of_length_eq_zero hl.out
    exact ⟨ret_int (by rw [HN.out,hr]; rfl),rfl⟩
   ·obtain ⟨b,off,x,rfl,_,_,h3,hxk,hv⟩:=h.cellAt (k:=0) (by omega)
    simp only [Nat.add_zero] at hv
    have HX:=Lib.hid hxk
    clear hxk h
    go_wp2
    go_ret
    exact ⟨ret_int (by rw [HN.out,head_at HX.out]),rfl⟩
end Go.Proofs.YtkfafknliihabaaDoor
namespace Go.Proofs.YtkfafknliihabaaDoor
open Go.RowKit Go.Conc
def refF (ts : List DeedD) (ar : Bool) : Nat -> List Ln -> Int -> List (Nat × List UInt8)
 | 0,_,_ => []
 | m + 1,ls,last =>
  if nextF (readyUpto ts.length ls ts) last < 0 then [] else
   ((
     nextF (readyUpto ts.length ls ts) last).toNat,(doneF (ls.getD (ts.getD (nextF (readyUpto ts.length ls ts) last).toNat d00).a.toNat l00) (ts.getD (nextF (readyUpto ts.length ls ts) last).toNat d00)).2) ::
     refF ts ar m (ls.set (ts.getD (nextF (readyUpto ts.length ls ts) last).toNat d00).a.toNat (doneF (ls.getD (ts.getD (nextF (readyUpto ts.length ls ts) last).toNat d00).a.toNat l00) (ts.getD (nextF (readyUpto ts.length ls ts) last).toNat d00)).1) (if ar then nextF (readyUpto ts.length ls ts) last else last)
structure SrvSt (w0 w wr : World) (gl cl go co N k0 : Nat) (vs : List LnV) (ls : List Ln) (told : List (List UInt8)) (g cg k : Nat) (out : List (Nat × List UInt8)) : Prop where
 B : Below w0.heap.size w0 wr
 wsz : w.heap.size <= wr.heap.size
 str : wr.ownsRow w0.heap.size 9 1 (.slice (some ⟨go,0,none⟩) k0 co) k0 (txts told)
 own : wr.ownsRow w.heap.size 31 2 (.slice (some ⟨g,0,none⟩) k cg) k (svals out)
 ne : go ≠ gl
 lt : gl < w.heap.size /\ go < w.heap.size
 lines : wr.ownsRow w0.heap.size 102 4 (.slice (some ⟨gl,0,none⟩) N cl) N (lnCells vs)
 len : ls.length = N
 lns : ∀ (i : Nat) v l,vs[i]? = some v -> ls[i]? = some l -> LnOk wr (λ b => w0.heap.size <= b /\ b ≠ go /\ b ≠ gl /\ b ≠ g) v l /\ (0 < i -> v.full)
section
variable {w0 w wr wc Wd X w2 : World} {gl cl go co N k0 g cg k g2 c2 L : Nat} {vs : List LnV} {ls : List Ln} {told : List (List UInt8)} {out : List (Nat × List UInt8)}
theorem SrvSt.run (h : SrvSt w0 w wr gl cl go co N k0 vs ls told g cg k out) : RunSt w0 wr gl cl go co N k0 vs (ls,told):=
 ⟨h.B,h.str,h.ne,h.lines,h.len,λ i v l h1 h2 => ⟨(h.lns i v l h1 h2).1.keep (Nat.le_refl _) (λ _ _ _ => rfl) (λ b hb _ => ⟨hb.1,hb.2.1,hb.2.2.1⟩),(h.lns i v l h1 h2).2⟩⟩
theorem SrvSt.below (h : SrvSt w0 w wr gl cl go co N k0 vs ls told g cg k out) (hb : Below wr.heap.size wr wc) : SrvSt w0 w wc gl cl go co N k0 vs ls told g cg k out:=
 ⟨below_step h.B hb,Nat.le_trans h.wsz hb.size,row_below' h.str hb,row_below' h.own hb,h.ne,h.lt,row_below' h.lines hb,h.len,λ i v l h1 h2 => ⟨(h.lns i v l h1 h2).1.below hb,(h.lns i v l h1 h2).2⟩⟩
theorem SrvSt.start (St : RunSt w0 w gl cl go co N k0 vs (ls,told)) (o : Obj) (ho : o = .cells #[] 31) : SrvSt w0 w (w.alloc o) gl cl go co N k0 vs ls told w.heap.size 0 0 []:=by
 have hb:=below_al (Below.refl w.heap.size w) o
 obtain ⟨_,csl,kl,_⟩:=row_blk St.lines
 obtain ⟨_,cso,ko,_⟩:=row_blk St.out
 refine ⟨below_step St.B hb,by simp,row_below' St.out hb,row_empty (Nat.le_refl _) (by rw [ho]; exact heap_alloc_new _ _),St.ne,⟨blk_lt kl,blk_lt ko⟩,row_below' St.lines hb,St.len,λ i v l h1 h2 => ⟨?_,(St.lns i v l h1 h2).2⟩⟩
 exact (St.lns i v l h1 h2).1.keep hb.size (λ b _ hlt => hb.block b hlt) (λ b h hlt => ⟨h.1,h.2.1,h.2.2,by omega⟩)
theorem SrvSt.step {l' : Ln} {v' : LnV} {p : Nat × List UInt8} (St : SrvSt w0 w wr gl cl go co N k0 vs ls told g cg k out) (hLN : L < N) (hvl : vs.length = N) (Bc : Below wr.heap.size wr wc) (okD : LnOk wc (λ b => w0.heap.size <= b /\ b ≠ go /\ b ≠ gl /\ b ≠ g) v' l') (hf : 0 < L -> v'.full)
  (hWd : Wd = (((wc.setCell ⟨gl,L * 4,none⟩ (.int .i64 v'.room)).setCell ⟨gl,L * 4 + 1,none⟩ (.slice v'.AH v'.nH v'.cH)).setCell ⟨gl,L * 4 + 2,none⟩ (.bool v'.ended)).setCell ⟨gl,L * 4 + 3,none⟩ (.slice v'.AT v'.nT v'.cT))
  (hX : Below Wd.heap.size Wd X) (hgr : X.grownBy w2 (some g)) (hat : g = g2 \/ g2 = X.heap.size)
  (hown : w2.ownsRow w.heap.size 31 2 (.slice (some ⟨g2,0,none⟩) (k + 1) c2) (k + 1) (svals out ++ [.int .i64 p.1,.string ⟨p.2.toArray⟩])) : SrvSt w0 w w2 gl cl go co N k0 (vs.set L v') (ls.set L l') told g2 c2 (k + 1) (out ++ [p]):=by
 have hsz : Wd.heap.size = wc.heap.size:=by rw [hWd]; simp
 have hk : Chg gl (gl + 1) wc Wd:=by rw [hWd]; (repeat' (first | with_reducible assumption | with_reducible exact Chg.refl _ _ _ | (with_reducible refine Chg.setCell ?_ (by first | omega | (simp; done) | (simp; omega)) (by first | omega | (simp; done) | (simp; omega)) _) | with_reducible apply Chg.alloc))
 obtain ⟨gl1,csl,kgl,_⟩:=row_blk St.lines
 have zgl:=blk_lt kgl
 obtain ⟨go1,cso,kgo,_⟩:=row_blk St.str
 have zgo:=blk_lt kgo
 obtain ⟨gg1,csg,kg,_⟩:=row_blk St.own
 have zg:=blk_lt kg
 have zc:=Bc.size
 have zX:=hX.size
 have ne:=St.ne
 have hlt:=St.lt
 have hwz:=St.wsz
 have lw : Wd.ownsRow w0.heap.size 102 4 (.slice (some ⟨gl,0,none⟩) N cl) N (lnCells (vs.set L v')):=by
  rw [lnCells_set v' vs L (by omega),hWd]
  exact row_set (row_set (row_set (row_set (row_below' St.lines Bc) _) _) _) _
 have tr : ∀ {v : LnV} {l : Ln},LnOk wc (λ b => w0.heap.size <= b /\ b ≠ go /\ b ≠ gl /\ b ≠ g) v l -> LnOk w2 (λ b => w0.heap.size <= b /\ b ≠ go /\ b ≠ gl /\ b ≠ g2) v l:=by
  intro v l ok
  have ok2 : LnOk X (λ b => w0.heap.size <= b /\ b ≠ go /\ b ≠ gl /\ b ≠ g) v l:=
   (ok.keep (Q:=λ b => w0.heap.size <= b /\ b ≠ go /\ b ≠ gl /\ b ≠ g) hk.size (λ b hb hlt => hk.block b hlt (by have:=hb.2.2.1; omega)) (λ _ h _ => h)).below hX
  refine ok2.keep hgr.size (λ b hb hlt => hgr.block b hlt (by intro e; injection e with e; exact hb.2.2.2 e)) (λ b hb hlt => ⟨hb.1,hb.2.1,hb.2.2.1,?_⟩)
  rcases hat with e | e
  ·rw [<- e]; exact hb.2.2.2
  ·omega
 have b1 : Below w0.heap.size w0 Wd:=(St.B.trans (Bc.mono St.B.size)).trans (hk.below gl1 (by have:=St.B.size; omega))
 have b2 : Below w0.heap.size w0 X:=below_step b1 hX
 refine ⟨?_,by have:=hgr.size; omega,?_,?_,ne,hlt,?_,by rw [List.length_set]; exact St.len,?_⟩
 ·exact b2.trans ⟨hgr.os,hgr.tape,hgr.output,hgr.size,λ i hi => hgr.block i (Nat.lt_of_lt_of_le hi b2.size) (by intro e; injection e with e; have:=St.B.size; omega)⟩
 ·exact row_at (row_below' (row_at (row_below' St.str Bc) (hk.block go (by omega) (by omega))) hX) (hgr.block go (by omega) (by intro e; injection e with e; omega))
 ·rw [svals_snoc]; exact hown
 ·exact row_at (row_below' lw hX) (hgr.block gl (by omega) (by intro e; injection e with e; omega))
 ·intro i v l hv hl
  by_cases hi : i = L
  ·subst hi
   rw [List.getElem?_set_self (by omega)] at hv
   rw [List.getElem?_set_self (by rw [St.len]; omega)] at hl
   injection hv with hv; injection hl with hl
   subst hv hl
   exact ⟨tr okD,hf⟩
  ·rw [List.getElem?_set_ne (by omega)] at hv hl
   obtain ⟨ok,hf'⟩:=St.lns i v l hv hl
   exact ⟨tr (ok.below Bc),hf'⟩
end
end Go.Proofs.YtkfafknliihabaaDoor
namespace Go.Proofs.YtkfafknliihabaaDoor
open Go.RowKit Go.Conc
theorem readyUpto_in {k : Nat} {ls : List Ln} {ts : List DeedD} {x : Int} (h : x ∈ readyUpto k ls ts) : ∃ q : Nat,x = (q : Int) /\ q < k /\ readyF (ls.getD (ts.getD q d00).a.toNat l00) (ts.getD q d00) = true:=by
 unfold readyUpto at h
 obtain ⟨q,hq,rfl⟩:=List.mem_map.1 h
 obtain ⟨h1,h2⟩:=List.mem_filter.1 hq
 exact ⟨q,rfl,by simpa using h1,by simpa using h2⟩
theorem nextF_in {r : List Int} {last : Int} (h : ¬ nextF r last < 0) : nextF r last ∈ r:=by
 unfold nextF at h ⊢
 cases hf : r.find? λ x => decide (last < x) with
 | some x => exact List.mem_of_find?_eq_some hf
 | none =>
  rw [hf] at h
  cases r with
  | nil => simp at h
  | cons a r => simp
theorem refF_stop {ts : List DeedD} {ar : Bool} {m : Nat} {ls : List Ln} {last : Int} (h : nextF (readyUpto ts.length ls ts) last < 0) : refF ts ar (m + 1) ls last = []:=by rw [refF,if_pos h]
theorem refF_go {ts : List DeedD} {ar : Bool} {m q : Nat} {ls : List Ln} {last : Int} {d : DeedD} {l : Ln} (h : nextF (readyUpto ts.length ls ts) last = (q : Int)) (hd : ts[q]? = some d) (hl : ls[d.a.toNat]? = some l) :
  refF ts ar (m + 1) ls last = (q,(doneF l d).2) :: refF ts ar m (ls.set d.a.toNat (doneF l d).1) (if ar then (q : Int) else last):=by
 have e1 : ts.getD q d00 = d:=by rw [List.getD_eq_getElem?_getD,hd]; rfl
 have e2 : ls.getD d.a.toNat l00 = l:=by rw [List.getD_eq_getElem?_getD,hl]; rfl
 rw [refF,h]
 rw [if_neg (by omega)]
 simp only [Int.toNat_natCast,e1,e2]
set_option maxRecDepth 20000 in
set_option maxHeartbeats 8000000 in
theorem spec_l5Serve {w0 w : World} {gl cl go co N k0 tn : Nat} {vs0 : List LnV} {ls0 : List Ln} {told : List (List UInt8)} {lines : Int} {ts : List DeedD} {ar : Bool} (St0 : RunSt w0 w gl cl go co N k0 vs0 (ls0,told)) (hN : lines + 1 = N) (hsm0 : RunSmall 60 (ls0,[])) (ht : tableB ts lines = true) {n c : Nat} {A : Option Addr} (h2 : Slc w0 0 w0.heap.size 3 A n c (deeds ts)) (htn : tn <= 40) :
  Calls Tryd.prog 37 #[.slice (some ⟨gl,0,none⟩) N cl,.slice A n c,.int .i64 tn,.bool ar] w λ e w' => ∃ g cg,e = .returned (.slice (some ⟨g,0,none⟩) (refF ts ar tn ls0 (-1)).length cg) /\ w'.ownsRow w.heap.size 31 2 (.slice (some ⟨g,0,none⟩) (refF ts ar tn ls0 (-1)).length cg) (refF ts ar tn ls0 (-1)).length (svals (refF ts ar tn ls0 (-1))) /\ Below w0.heap.size w0 w':=by
 obtain ⟨⟨t1,t8⟩,hts⟩:=ent_of ht
 have hlm:=h2.deedLen
 have hn8 : n <= 8:=by omega
 have hts8 : ts.length <= 8:=t8
 have HT:=Lib.hid (And.intro hts (And.intro hN (And.intro hlm (And.intro h2 ht))))
 have HS0:=Lib.hid (And.intro St0 hsm0)
 obtain ⟨i0,hi0,hz0,hz1,hz2⟩:=info_parts info_served
 have HI:=Lib.hid (And.intro hi0 (And.intro hz0 (And.intro hz1 hz2)))
 clear hi0 hz0 hz1 hz2 St0 hsm0 hts hN hlm h2 ht t1 t8
 go_enter Tryd.func37, Tryd.ntmps37
 go_wp2
 go_loopw [9,10,11,12,13,14] (λ v la i _ _ _ wr => ∃ (j g cg : Nat) (last : Int) (vs : List LnV) (ls : List Ln) (out : List (Nat × List UInt8)),j <= tn /\ i = .int .i64 j /\ v = .slice (some ⟨g,0,none⟩) j cg /\ la = .int .i64 last /\ -1 <= last /\ last < 8 /\ out.length = j /\ SrvSt w0 w wr gl cl go co N k0 vs ls told g cg j out /\ RunSmall (60 + j) (ls,[]) /\ refF ts ar tn ls0 (-1) = out ++ refF ts ar (tn - j) ls last) (λ _ _ i _ _ _ _ => tn - (intOf i).toNat)
 case atStart => exact ⟨0,w.heap.size,0,-1,vs0,ls0,[],Nat.zero_le _,rfl,rfl,rfl,by omega,by omega,rfl,SrvSt.start HS0.out.1 _ rfl,HS0.out.2,by simp⟩
 case round =>
  obtain ⟨j,g,cg,last,vs,ls,out,hj,rfl,rfl,rfl,hl1,hl8,hlo,St,hsm,hF⟩:=hrel
  by_cases hlt : j < tn
  ·have HJ:=Lib.hid (And.intro hlo (And.intro hsm (And.intro hF St)))
   have hall:=spec_l5All (ts:=ts) St.run HT.out.2.1 (λ l hl => by have:=(hsm l hl).1; omega) HT.out.2.2.2.2 ((HT.out.2.2.2.1.keep (w':=wr) St.B.size (λ b _ q _ => St.B.block b q)))
   have HALL:=Lib.hid hall
   have zw:=St.wsz
   have hrl:=readyUpto_len ts.length ls ts
   clear hlo hsm hF St hall
   obtain ⟨q,hq⟩ : ∃ q,q = nextF (readyUpto ts.length ls ts) last:=⟨_,rfl⟩
   have HQ:=Lib.hid hq
   clear hq
   by_cases hneg : q < 0
   ·go_wp2_with (first
     | (go_at_call 61; refine HALL.out.mono ?_; rintro e w1 ⟨A1,n1,c1,rfl,ho1,b1⟩; have hn1:=ho1.slc.length; have HO1:=Lib.hid (And.intro ho1 b1); clear ho1 b1)
     | (go_at_call 60; refine (spec_l5Next _ _ _ _ _ _ last _ HO1.out.1.slc (by omega)).mono ?_; rintro e w2 ⟨rfl,rfl⟩; rw [<- HQ.out]))
    have e : nextF (readyUpto ts.length ls ts) last < 0:=by rw [<- HQ.out]; exact hneg
    have hF2 : refF ts ar tn ls0 (-1) = out:=by rw [HJ.out.2.2.1,show tn - j = (tn - j - 1) + 1 by omega,refF_stop e,List.append_nil]
    rw [hF2,HJ.out.1]
    go_ret
    exact ⟨g,cg,rfl,row_below' HJ.out.2.2.2.own HO1.out.2,below_step HJ.out.2.2.2.B HO1.out.2⟩
   ·obtain ⟨qn,hqn,hqlt,_⟩:=readyUpto_in (nextF_in (r:=readyUpto ts.length ls ts) (last:=last) (by rw [<- HQ.out]; exact hneg))
    have hqe : q = (qn : Int):=by rw [HQ.out,hqn]
    subst hqe
    have HQN:=Lib.hid hqn
    clear hqn
    have hqn' : qn < n:=by rw [<- HT.out.2.2.1]; exact hqlt
    go_upto_region 9 with (first
     | (go_at_call 61; refine HALL.out.mono ?_; rintro e w1 ⟨A1,n1,c1,rfl,ho1,b1⟩; have hn1:=ho1.slc.length; have HO1:=Lib.hid (And.intro ho1 b1); clear ho1 b1)
     | (go_at_call 60; refine (spec_l5Next _ _ _ _ _ _ last _ HO1.out.1.slc (by omega)).mono ?_; rintro e wq ⟨rfl,rfl⟩; rw [<- HQ.out]))
    have St:=HJ.out.2.2.2.below HO1.out.2
    have h2w:=HT.out.2.2.2.1.keep (w':=wq) St.B.size (λ b _ q _ => St.B.block b q)
    obtain ⟨b,off,d,hA,_,_,h3,hxk,hv0,hv1,hv2⟩:=h2w.deedAt hqn'
    subst hA
    obtain ⟨⟨p1,p2,p3,p4,p5,p6⟩,hact⟩:=HT.out.1 d (List.mem_of_getElem? hxk)
    obtain ⟨s,x,y⟩:=d
    obtain ⟨L,hL⟩:=Int.eq_ofNat_of_zero_le p2
    have hL' : x = (L : Int):=hL
    subst hL'
    have hLN : L < N:=by have:=HT.out.2.1; simp only at p3; omega
    have hvl:=lns_len St.lines
    obtain ⟨v,hv⟩ : ∃ v,vs[L]? = some v:=⟨_,List.getElem?_eq_getElem (by omega)⟩
    obtain ⟨l,hl⟩ : ∃ l,ls[L]? = some l:=⟨_,List.getElem?_eq_getElem (by rw [St.len]; exact hLN)⟩
    obtain ⟨ok,okf⟩:=St.lns L v l hv hl
    obtain ⟨g0,g1,g2,g3⟩:=lnCells_get hv
    have c0:=row_cells St.lines g0
    have c1':=row_cells St.lines g1
    have c2':=row_cells St.lines g2
    have c3:=row_cells St.lines g3
    obtain ⟨s1,s2,s3⟩:=HJ.out.2.1 l (List.mem_of_getElem? hl)
    have sm : LnSmall l:=⟨by omega,by omega,s3⟩
    have S0:=And.intro hv0 (And.intro hv1 (And.intro hv2 (And.intro c0 (And.intro c1' (And.intro c2' (And.intro c3 (Below.refl wq.heap.size wq)))))))
    simp only [Nat.add_zero] at S0
    have HX:=Lib.hid hxk
    have HP:=Lib.hid (show deedP lines ⟨s,(L : Int),y⟩ from ⟨p1,p2,p3,p4,p5,p6⟩)
    have HST:=Lib.hid St
    have HOK:=Lib.hid (And.intro ok okf)
    have HVL:=Lib.hid (And.intro hv hl)
    have HSM2:=Lib.hid sm
    have zgo:=blk_lt (row_blk St.str).2.choose_spec.1
    have zgg:=blk_lt (row_blk St.own).2.choose_spec.1
    have zgg2:=(row_blk St.own).1
    have zgl:=blk_lt (row_blk St.lines).2.choose_spec.1
    have zgl2:=St.lt
    have zw1:=St.B.size
    have zw2:=St.wsz
    have i0' : (0 : Int) <= (qn : Int):=by omega
    have i1 : (qn : Int) < (n : Int):=by omega
    have i2 : (0 : Int) <= (L : Int):=by omega
    have i3 : (L : Int) < (N : Int):=by omega
    clear hxk p1 p2 p3 p4 p5 p6 St ok okf hv hl sm h3 hv0 hv1 hv2 c0 c1' c2' c3 g0 g1 g2 g3 h2w s1 s2 s3 hL hact
    obtain ⟨D,hD⟩ : ∃ D,D = doneF l ⟨s,(L : Int),y⟩:=⟨_,rfl⟩
    have HD:=Lib.hid hD
    clear hD
    go_cut [13,14] from 16 to 60 (λ s13 s14 wc => ∃ b9 v',s13 = .pointer (some ⟨b9,0,none⟩) /\ s14 = .string ⟨D.2.toArray⟩ /\ wc.heap[b9]? = some (.cells (LnV.cells v').toArray 102) /\ LnOk wc (λ b => w0.heap.size <= b /\ b ≠ go /\ b ≠ gl /\ b ≠ g) v' D.1 /\ Below wq.heap.size wq wc /\ wq.heap.size <= b9 /\ (v.full -> v'.full))
    case first =>
     go_region_held3 (λ W => W.cell? ⟨b,off + qn * 3,none⟩ = some (.string s) /\ W.cell? ⟨b,off + qn * 3 + 1,none⟩ = some (.int .i64 L) /\ W.cell? ⟨b,off + qn * 3 + 2,none⟩ = some (.int .i64 y) /\ W.cell? ⟨gl,L * 4,none⟩ = some (.int .i64 v.room) /\ W.cell? ⟨gl,L * 4 + 1,none⟩ = some (.slice v.AH v.nH v.cH) /\ W.cell? ⟨gl,L * 4 + 2,none⟩ = some (.bool v.ended) /\ W.cell? ⟨gl,L * 4 + 3,none⟩ = some (.slice v.AT v.nT v.cT) /\ Below wq.heap.size wq W)
      (first | ((refine held7_below ?_ (Nat.le_refl _) ?_ <;> assumption); done) | (refine held7_of S0 ?_; (repeat' first | with_reducible assumption | with_reducible exact Below.refl _ _ | with_reducible apply below_al | with_reducible apply below_drew | with_reducible refine Below.setCell ?_ (by first | (simp; done) | (simp; omega)) _); done))
      (first
       | (go_at_call 59; refine (l1Done_any v l ⟨s,(L : Int),y⟩ _ (λ b => (w0.heap.size <= b /\ b ≠ go /\ b ≠ gl /\ b ≠ g) /\ b ≠ wq.heap.size) (ok_held7 (by assumption) HOK.out.1 (λ b hb h => ⟨hb,by omega⟩)) HSM2.out HP.out (by intro b hb; simp at hb; exact ⟨⟨by omega,by omega,by omega,by omega⟩,by omega⟩) (λ h => HOK.out.2 (by simp only at h; omega))).mono ?_; rintro e w2 ⟨⟨r1,A1,n1,q1,t1,A3,n3,q3⟩,rfl,ok',b2,hf'⟩; have bw : Below wq.heap.size wq w2:=bw7 b2 (by assumption); simp only [LnV.cells]; have k9 : w2.heap[wq.heap.size]? = some (.cells #[.int .i64 0,.slice none 0 0,.bool false,.slice none 0 0] 102):=(b2.block _ (by simp)).trans (by ((try with_reducible apply blk_drew); (first | with_reducible assumption | (with_reducible refine heap_new' _ _ ?_; simp) | (with_reducible refine blk_alloc ?_ _; first | with_reducible assumption | (with_reducible refine heap_new' _ _ ?_; simp)) | (with_reducible refine blk_alloc ?_ _; with_reducible refine blk_alloc ?_ _; first | with_reducible assumption | (with_reducible refine heap_new' _ _ ?_; simp)) | (with_reducible refine blk_alloc ?_ _; with_reducible refine blk_alloc ?_ _; with_reducible refine blk_alloc ?_ _; first | with_reducible assumption | (with_reducible refine heap_new' _ _ ?_; simp))))); have e9:=blk_cell k9; have f9:=blk_frozen' k9; have z9:=blk_lt k9)
       | (go_at_call 59; refine (l1Done_any v l ⟨s,(L : Int),y⟩ _ (λ b => w0.heap.size <= b /\ b ≠ go /\ b ≠ gl /\ b ≠ g) (ok_held7 (by assumption) HOK.out.1 (λ b hb h => hb)) HSM2.out HP.out (by intro b hb; (try simp at hb); exact ⟨by omega,by omega,by omega,by omega⟩) (λ h => HOK.out.2 (by simp only at h; omega))).mono ?_; rintro e w2 ⟨⟨r1,A1,n1,q1,t1,A3,n3,q3⟩,rfl,ok',b2,hf'⟩; have bw : Below wq.heap.size wq w2:=bw7 b2 (by assumption); simp only [LnV.cells]))
     all_goals
      go_wp2_with fail
      go_meet
      have z2:=bw.size
      refine ⟨_,⟨r1,A1,n1,q1,t1,A3,n3,q3⟩,rfl,by rw [HD.out],?_,?_,?_,?_,hf'⟩
      ·first | exact (blk_set4 (x0:=.int .i64 r1) (x1:=.slice A1 n1 q1) (x2:=.bool t1) (x3:=.slice A3 n3 q3) k9) | exact heap_alloc_new _ _
      ·rw [HD.out]
       first | with_reducible exact LnOk.alloc ok' _ | (refine LnOk.set ok' ?_; (repeat' (first | with_reducible assumption | with_reducible exact Chg.refl _ _ _ | (with_reducible refine Chg.setCell ?_ (by first | omega | (simp; done) | (simp; omega)) (by first | omega | (simp; done) | (simp; omega)) _) | with_reducible apply Chg.alloc)))
      ·first | with_reducible exact below_al bw _ | (refine Below.chg bw (lo:=wq.heap.size) (hi:=wq.heap.size + 1) ?_ (Nat.le_refl _); (repeat' (first | with_reducible assumption | with_reducible exact Chg.refl _ _ _ | (with_reducible refine Chg.setCell ?_ (by first | omega | (simp; done) | (simp; omega)) (by first | omega | (simp; done) | (simp; omega)) _) | with_reducible apply Chg.alloc)))
      ·first | exact z2 | exact Nat.le_refl _
    case rest =>
     obtain ⟨b9,⟨r1,A1,n1,q1,t1,A3,n3,q3⟩,rfl,rfl,hb9,okD,Bc,zb9,hfD⟩:=hcut
     simp only [LnV.cells] at hb9
     have S1:=held7_of S0 Bc
     obtain ⟨a0,a1,a2,a3,a4,a5,a6,_⟩:=S1
     have e9:=blk_cell hb9
     obtain ⟨gl1,csl,kgl,_⟩:=row_blk HST.out.lines
     have fgl:=blk_frozen' ((Bc.block gl zgl).trans kgl)
     have HBC:=Lib.hid Bc
     have HOKD:=Lib.hid okD
     have HFD:=Lib.hid hfD
     have zc:=Bc.size
     have hne:=HST.out.ne
     clear hb9 okD Bc hfD kgl S0
     have hb9z : b9 ≠ gl:=by omega
     go_upto_region 10 with fail
     go_region
     go_upto_region 11 with fail
     obtain ⟨Wd,hWd⟩ : ∃ Wd,Wd = (((wc.setCell ⟨gl,L * 4,none⟩ (.int .i64 r1)).setCell ⟨gl,L * 4 + 1,none⟩ (.slice A1 n1 q1)).setCell ⟨gl,L * 4 + 2,none⟩ (.bool t1)).setCell ⟨gl,L * 4 + 3,none⟩ (.slice A3 n3 q3):=⟨_,rfl⟩
     rw [<- hWd]
     have hsz : Wd.heap.size = wc.heap.size:=by rw [hWd]; simp
     have hk : Chg gl (gl + 1) wc Wd:=by rw [hWd]; (repeat' (first | with_reducible assumption | with_reducible exact Chg.refl _ _ _ | (with_reducible refine Chg.setCell ?_ (by first | omega | (simp; done) | (simp; omega)) (by first | omega | (simp; done) | (simp; omega)) _) | with_reducible apply Chg.alloc))
     have HWD:=Lib.hid hWd
     have hO : Wd.ownsRow w.heap.size 31 2 (.slice (some ⟨g,0,none⟩) j cg) j (svals out):=row_at HST.out.own ((hk.block g (by omega) (by omega)).trans (HBC.out.block g zgg))
     have HO:=Lib.hid hO
     clear hWd hk hO e9 fgl a0 a1 a2 a3 a4 a5 a6
     obtain ⟨hi0,hz0,hz1,hz2⟩:=HI.out
     have HH:=Lib.hid hi0
     clear hi0
     cases ar with
     | true =>
      go_wp2_with (at_builtin; go_loud (refine wpList_append_lies _ rfl (.tmp 53) (.tmp 57) 27 rfl w.heap.size 31 i0 (.agg #[.int .i64 0,.string ⟨#[]⟩]) 2 24 Tryd.underlying27 HH.out hz0 hz1 hz2 rfl (by decide) (.slice (some ⟨g,0,none⟩) j cg) j _ rfl (row_below' HO.out (below_drew (below_al (Below.refl _ _) _))) ⟨_,0,none⟩ 1 1 [.int .i64 qn,.string ⟨D.2.toArray⟩] rfl rfl (World.news_of_block (cs:=#[.int .i64 qn,.string ⟨D.2.toArray⟩]) (blk_drew (heap_new' Wd _ hsz.symm))) (by simp [Value.oneCell']) (by decide) (by unfold maxLen; omega) (by omega) (by simp; omega) _ rfl ?_); intro g2 c2n w2 hown2 hgr2 hat2 hlt2; have HO2:=Lib.hid hown2; have HG2:=Lib.hid hgr2; have HAT:=Lib.hid hat2; clear hown2 hgr2 hat2)
      go_roundw
      case rel =>
       have hst:=HST.out.step (p:=(qn,D.2)) (L:=L) (l':=D.1) (v':=⟨r1,A1,n1,q1,t1,A3,n3,q3⟩) hLN (lns_len HST.out.lines) HBC.out HOKD.out (λ h => HFD.out (HOK.out.2 h)) HWD.out (below_drew (below_al (Below.refl _ _) _)) HG2.out (by rcases HAT.out with h | h; exact .inl (by simpa [Value.ownBlock] using h); exact .inr h) HO2.out
       refine ⟨j + 1,g2,c2n,(qn : Int),vs.set L ⟨r1,A1,n1,q1,t1,A3,n3,q3⟩,ls.set L D.1,out ++ [(qn,D.2)],by omega,by go_num,rfl,rfl,by omega,by omega,by simp [HJ.out.1],hst,?_,?_⟩
       ·have hsm:=stepF_small HP.out HJ.out.2.1
        have hst1 : (stepF (ls,[]) ⟨s,(L : Int),y⟩).1 = ls.set L D.1:=by
         have hge : ls.getD L ⟨0,[],false,[]⟩ = l:=by rw [List.getD_eq_getElem?_getD,HVL.out.2]; rfl
         unfold stepF
         simp only [Int.toNat_natCast,hge,HD.out]
        intro l' hl'
        exact hsm l' (by rw [hst1]; exact hl')
       ·rw [HJ.out.2.2.1,show tn - j = (tn - (j + 1)) + 1 by omega,refF_go HQN.out HX.out HVL.out.2,<- HD.out]
        simp
      case measure => simp [intOf]; omega
     | false =>
      go_wp2_with (at_builtin; go_loud (refine wpList_append_lies _ rfl (.tmp 53) (.tmp 57) 27 rfl w.heap.size 31 i0 (.agg #[.int .i64 0,.string ⟨#[]⟩]) 2 24 Tryd.underlying27 HH.out hz0 hz1 hz2 rfl (by decide) (.slice (some ⟨g,0,none⟩) j cg) j _ rfl (row_below' HO.out (below_drew (below_al (Below.refl _ _) _))) ⟨_,0,none⟩ 1 1 [.int .i64 qn,.string ⟨D.2.toArray⟩] rfl rfl (World.news_of_block (cs:=#[.int .i64 qn,.string ⟨D.2.toArray⟩]) (blk_drew (heap_new' Wd _ hsz.symm))) (by simp [Value.oneCell']) (by decide) (by unfold maxLen; omega) (by omega) (by simp; omega) _ rfl ?_); intro g2 c2n w2 hown2 hgr2 hat2 hlt2; have HO2:=Lib.hid hown2; have HG2:=Lib.hid hgr2; have HAT:=Lib.hid hat2; clear hown2 hgr2 hat2)
      go_roundw
      case rel =>
       have hst:=HST.out.step (p:=(qn,D.2)) (L:=L) (l':=D.1) (v':=⟨r1,A1,n1,q1,t1,A3,n3,q3⟩) hLN (lns_len HST.out.lines) HBC.out HOKD.out (λ h => HFD.out (HOK.out.2 h)) HWD.out (below_drew (below_al (Below.refl _ _) _)) HG2.out (by rcases HAT.out with h | h; exact .inl (by simpa [Value.ownBlock] using h); exact .inr h) HO2.out
       refine ⟨j + 1,g2,c2n,last,vs.set L ⟨r1,A1,n1,q1,t1,A3,n3,q3⟩,ls.set L D.1,out ++ [(qn,D.2)],by omega,by go_num,rfl,rfl,by omega,by omega,by simp [HJ.out.1],hst,?_,?_⟩
       ·have hsm:=stepF_small HP.out HJ.out.2.1
        have hst1 : (stepF (ls,[]) ⟨s,(L : Int),y⟩).1 = ls.set L D.1:=by
         have hge : ls.getD L ⟨0,[],false,[]⟩ = l:=by rw [List.getD_eq_getElem?_getD,HVL.out.2]; rfl
         unfold stepF
         simp only [Int.toNat_natCast,hge,HD.out]
        intro l' hl'
        exact hsm l' (by rw [hst1]; exact hl')
       ·rw [HJ.out.2.2.1,show tn - j = (tn - (j + 1)) + 1 by omega,refF_go HQN.out HX.out HVL.out.2,<- HD.out]
        simp
      case measure => simp [intOf]; omega
  ·have e : j = tn:=by omega
   subst e
   have hF2 : refF ts ar j ls0 (-1) = out:=by rw [hF,Nat.sub_self,refF,List.append_nil]
   go_wp2
   rw [hF2,hlo]
   go_ret
   exact ⟨g,cg,rfl,St.own,St.B⟩
end Go.Proofs.YtkfafknliihabaaDoor
namespace Go.Proofs.YtkfafknliihabaaDoor
open Go.RowKit
structure LnS (a b : Ln) : Prop where
 room : a.room = b.room
 held : a.held = b.held
 ended : a.ended = b.ended
def LsS (la bs : List Ln) : Prop:=la.length = bs.length /\ ∀ i,LnS (la.getD i l00) (bs.getD i l00)
theorem LnS.refl (a : Ln) : LnS a a:=⟨rfl,rfl,rfl⟩
theorem LsS.refl (la : List Ln) : LsS la la:=⟨rfl,λ i => .refl _⟩
theorem LnS.ready {a b : Ln} (h : LnS a b) (d : DeedD) : readyF a d = readyF b d:=by
 unfold readyF; rw [h.room,h.held,h.ended]
theorem getD_set {la : List Ln} {i j : Nat} {x : Ln} : (la.set i x).getD j l00 = if i = j /\ i < la.length then x else la.getD j l00:=by
 rw [List.getD_eq_getElem?_getD,List.getD_eq_getElem?_getD,List.getElem?_set]
 by_cases h : i = j
 ·subst h
  by_cases h2 : i < la.length
  ·simp [h2]
  ·simp [h2]
 ·simp [h]
theorem LsS.set {la bs : List Ln} (h : LsS la bs) (i : Nat) {x y : Ln} (hxy : LnS x y) : LsS (la.set i x) (bs.set i y):=by
 refine ⟨by simp [h.1],λ j => ?_⟩
 rw [getD_set,getD_set,h.1]
 split
 ·exact hxy
 ·exact h.2 j
theorem try_done {a b : Ln} (h : LnS a b) {d : DeedD} (hact : (d.act.toList == putA || d.act.toList == takeA) = true) (hr : readyF b d = true) : ∃ l',tryF a d = some (l',(doneF b d).2) /\ LnS l' (doneF b d).1:=by
 have hra : readyF a d = true:=by rw [h.ready]; exact hr
 have hz : ¬ d.a = 0:=λ e => by unfold readyF at hr; rw [if_pos e] at hr; cases hr
 have hact' : d.act.toList = putA \/ d.act.toList = takeA:=by simpa using hact
 unfold readyF at hr
 rw [if_neg hz] at hr
 unfold tryF
 rw [if_pos hra]
 rcases hact' with ha | ha
 ·have hnt : ¬ d.act.toList = takeA:=by rw [ha]; decide
  have hnl : ¬ d.act.toList = lookA:=by rw [ha]; decide
  have hne : ¬ d.act.toList = endA:=by rw [ha]; decide
  rw [if_neg hnt] at hr
  simp only [Bool.and_eq_true,Bool.not_eq_true',decide_eq_true_eq] at hr
  have ht : (d.act.toList == takeA) = false:=by rw [beq_eq_false_iff_ne]; exact hnt
  have hd : doneF b d = ({ b with held:=b.held ++ [d.b] },tPut):=by
   unfold doneF
   rw [if_neg hnl,if_neg hz,ht]
   cases hb : b.held with
   | nil => rw [hb] at hr; simp at hr; simp [hr.1,hne]; omega
   | cons x xs => rw [hb] at hr; simp at hr; simp [hr.1,hne]; omega
  rw [hd,if_neg hnt]
  exact ⟨_,rfl,h.room,by rw [h.held],h.ended⟩
 ·rw [if_pos ha] at hr
  have hnl : ¬ d.act.toList = lookA:=by rw [ha]; decide
  have ht : (d.act.toList == takeA) = true:=by rw [beq_iff_eq]; exact ha
  rw [if_pos ha]
  cases hb : b.held with
  | cons q qs =>
   have hd : doneF b d = ({ b with held:=qs,taken:=b.taken ++ [q] },tTook q):=by
    unfold doneF
    rw [if_neg hnl,if_neg hz,ht,hb]
   rw [hd,h.held,hb]
   exact ⟨_,rfl,h.room,rfl,h.ended⟩
  | nil =>
   have he : b.ended = true:=by rw [hb] at hr; simpa using hr
   have hd : doneF b d = (b,tEnded):=by
    unfold doneF
    rw [if_neg hnl,if_neg hz,ht,hb]
    simp [he]
   rw [hd,h.held,hb]
   exact ⟨a,rfl,h⟩
theorem turn_pure {la bs : List Ln} {ts : List DeedD} (h : LsS la bs) (hact : ∀ d ∈ ts,(d.act.toList == putA || d.act.toList == takeA) = true) (h0 : 0 < ts.length) {st : Nat} : ∀ (m k : Nat),k + m = ts.length -> (∀ j,j < k -> readyF (bs.getD (ts.getD (turnAt ts st j) d00).a.toNat l00) (ts.getD (turnAt ts st j) d00) = false) ->
  (turnFrom la ts st m k = none /\ ∀ j,j < ts.length -> readyF (bs.getD (ts.getD (turnAt ts st j) d00).a.toNat l00) (ts.getD (turnAt ts st j) d00) = false) \/
  ∃ j t,j < ts.length /\ turnFrom la ts st m k = some t /\ t.i = turnAt ts st j /\ (∀ i,i < j -> readyF (bs.getD (ts.getD (turnAt ts st i) d00).a.toNat l00) (ts.getD (turnAt ts st i) d00) = false) /\ readyF (bs.getD (ts.getD (turnAt ts st j) d00).a.toNat l00) (ts.getD (turnAt ts st j) d00) = true /\
   t.ans = (doneF (bs.getD (ts.getD t.i d00).a.toNat l00) (ts.getD t.i d00)).2 /\ LsS t.ls (bs.set (ts.getD t.i d00).a.toNat (doneF (bs.getD (ts.getD t.i d00).a.toNat l00) (ts.getD t.i d00)).1):=by
 intro m
 induction m with
 | zero =>
  intro k hk hno
  obtain rfl : k = ts.length:=by omega
  exact .inl ⟨rfl,hno⟩
 | succ m ih =>
  intro k hk hno
  have hi : turnAt ts st k < ts.length:=Nat.mod_lt _ h0
  have hmem : ts.getD (turnAt ts st k) d00 ∈ ts:=by
   rw [List.getD_eq_getElem?_getD,List.getElem?_eq_getElem hi]; exact List.getElem_mem hi
  have hact1:=hact _ hmem
  cases hr : readyF (bs.getD (ts.getD (turnAt ts st k) d00).a.toNat l00) (ts.getD (turnAt ts st k) d00) with
  | false =>
   have hT : toldF la ts (turnAt ts st k) = none:=by
    unfold toldF askF tryF
    rw [(h.2 _).ready,hr]; rfl
   rw [turnFrom_none hT]
   refine ih (k + 1) (by omega) λ j hj => ?_
   by_cases e : j = k
   ·subst e; exact hr
   ·exact hno j (by omega)
  | true =>
   obtain ⟨l',h1,h2⟩:=try_done (h.2 (ts.getD (turnAt ts st k) d00).a.toNat) hact1 hr
   have hT : toldF la ts (turnAt ts st k) = some ⟨turnAt ts st k,(doneF (bs.getD (ts.getD (turnAt ts st k) d00).a.toNat l00) (ts.getD (turnAt ts st k) d00)).2,la.set (ts.getD (turnAt ts st k) d00).a.toNat l'⟩:=by
    unfold toldF askF
    rw [h1]; rfl
   rw [turnFrom_some hT]
   exact .inr ⟨k,_,by omega,rfl,rfl,hno,hr,rfl,h.set _ h2⟩
def rdyAt (bs : List Ln) (ts : List DeedD) (i : Nat) : Bool:=readyF (bs.getD (ts.getD i d00).a.toNat l00) (ts.getD i d00)
theorem upto_eq (n : Nat) (bs : List Ln) (ts : List DeedD) : readyUpto n bs ts = ((List.range n).filter (rdyAt bs ts)).map λ i : Nat => (i : Int):=rfl
theorem nextF_upto {n : Nat} {p : Nat -> Bool} {last : Int} : nextF (((List.range n).filter p).map λ i : Nat => (i : Int)) last =
  match (List.range n).find? (λ i => p i && decide (last < (i : Int))) with
  | some i => (i : Int)
  | none => match (List.range n).find? p with
   | some i => (i : Int)
   | none => -1:=by
 have h1 : (((List.range n).filter p).map λ i : Nat => (i : Int)).find? (λ x => decide (last < x)) = ((List.range n).find? (λ i => p i && decide (last < (i : Int)))).map λ i : Nat => (i : Int):=by
  rw [List.find?_map,List.find?_filter]
  congr 1
  congr 1
  funext i
  simp
 have h2 : (((List.range n).filter p).map λ i : Nat => (i : Int)).headD (-1) = match (List.range n).find? p with | some i => (i : Int) | none => -1:=by
  rw [List.headD_eq_head?_getD,List.head?_map,List.head?_filter]
  cases (List.range n).find? p <;> rfl
 unfold nextF
 rw [h1,h2]
 cases (List.range n).find? (λ i => p i && decide (last < (i : Int))) <;> rfl
theorem next_none {n st : Nat} {p : Nat -> Bool} {last : Int} (h0 : 0 < n) (hst : st <= n) (h : ∀ j,j < n -> p ((st + j) % n) = false) : nextF (((List.range n).filter p).map λ i : Nat => (i : Int)) last < 0:=by
 have hp : ∀ i,i < n -> p i = false:=λ i hi => by
  by_cases e : st <= i
  ·have:=h (i - st) (by omega)
   rwa [show st + (i - st) = i by omega,Nat.mod_eq_of_lt hi] at this
  ·have:=h (i + n - st) (by omega)
   rwa [show st + (i + n - st) = i + n by omega,Nat.add_mod_right,Nat.mod_eq_of_lt hi] at this
 have e : (List.range n).filter p = []:=by
  rw [List.filter_eq_nil_iff]
  intro i hi
  rw [hp i (List.mem_range.1 hi)]; simp
 rw [e]
 simp [nextF]
theorem next_some {n st j : Nat} {p : Nat -> Bool} {last : Int} (hst : st <= n) (hl : last + 1 = (st : Int)) (hj : j < n) (hno : ∀ i,i < j -> p ((st + i) % n) = false) (hp : p ((st + j) % n) = true) : nextF (((List.range n).filter p).map λ i : Nat => (i : Int)) last = (((st + j) % n : Nat) : Int):=by
 rw [nextF_upto]
 by_cases e : st + j < n
 ·have hi : (st + j) % n = st + j:=Nat.mod_eq_of_lt e
  rw [hi] at hp ⊢
  have hf : (List.range n).find? (λ i => p i && decide (last < (i : Int))) = some (st + j):=by
   rw [List.find?_range_eq_some]
   refine ⟨?_,List.mem_range.2 e,λ i hi' => ?_⟩
   ·simp [hp]; omega
   ·by_cases h2 : st <= i
    ·have:=hno (i - st) (by omega)
     rw [show st + (i - st) = i by omega,Nat.mod_eq_of_lt (by omega)] at this
     simp [this]
    ·have : ¬ last < (i : Int):=by omega
     simp [this]
  rw [hf]
 ·have hi : (st + j) % n = st + j - n:=by
   rw [Nat.mod_eq_sub_mod (by omega),Nat.mod_eq_of_lt (by omega)]
  rw [hi] at hp ⊢
  have hf : (List.range n).find? (λ i => p i && decide (last < (i : Int))) = none:=by
   rw [List.find?_range_eq_none]
   intro i hi'
   by_cases h2 : st <= i
   ·have:=hno (i - st) (by omega)
    rw [show st + (i - st) = i by omega,Nat.mod_eq_of_lt (by omega)] at this
    simp [this]
   ·have : ¬ last < (i : Int):=by omega
    simp [this]
  have hf2 : (List.range n).find? p = some (st + j - n):=by
   rw [List.find?_range_eq_some]
   refine ⟨hp,List.mem_range.2 (by omega),λ i hi' => ?_⟩
   have:=hno (i + n - st) (by omega)
   rw [show st + (i + n - st) = i + n by omega,Nat.add_mod_right,Nat.mod_eq_of_lt (by omega)] at this
   simp [this]
  rw [hf,hf2]
theorem serve_ref {ts : List DeedD} {ar : Bool} (hact : ∀ d ∈ ts,(d.act.toList == putA || d.act.toList == takeA) = true) (h0 : 0 < ts.length) : ∀ (m : Nat) (la bs : List Ln) (st : Nat) (last : Int),LsS la bs -> st <= ts.length -> last + 1 = (st : Int) -> serveF ts ar m la st = refF ts ar m bs last:=by
 intro m
 induction m with
 | zero => intro la bs st last _ _ _; rfl
 | succ m ih =>
  intro la bs st last h hst hl
  have hT : turnF la ts st = turnFrom la ts st ts.length 0:=rfl
  rcases turn_pure (st:=st) h hact h0 ts.length 0 (by omega) (λ j hj => absurd hj (by omega)) with ⟨h1,h2⟩ | ⟨j,t,hj,h1,h2,h3,h4,h5,h6⟩
  ·rw [serveF_none (hT.trans h1)]
   have:=next_none (p:=rdyAt bs ts) (last:=last) h0 hst h2
   rw [refF,upto_eq,if_pos this]
  ·rw [serveF_some (hT.trans h1)]
   have hn:=next_some (p:=rdyAt bs ts) (last:=last) hst hl hj h3 h4
   have hn' : nextF (readyUpto ts.length bs ts) last = (t.i : Int):=by rw [upto_eq,hn,h2]; rfl
   rw [refF,hn',if_neg (show ¬ ((t.i : Nat) : Int) < 0 by omega)]
   simp only [Int.toNat_natCast]
   rw [h5]
   congr 1
   have hti : t.i < ts.length:=by rw [h2]; exact Nat.mod_lt _ h0
   cases ar with
   | true =>
    exact ih t.ls _ (t.i + 1) (t.i : Int) h6 (by omega) (by push_cast; rfl)
   | false =>
    exact ih t.ls _ st last h6 hst hl
end Go.Proofs.YtkfafknliihabaaDoor
namespace Go.Proofs.YtkfafknliihabaaDoor
open Go.RowKit Go.Mt Go.Conc Go.Tt
def servedF (rooms : List Int) (ds ts : List DeedD) (tn : Int) (ar : Bool) : List (Nat × List UInt8) × Bool:=if okS rooms ds ts tn then (serveF ts ar tn.toNat (runF rooms ds).1 0,true) else ([],false)
noncomputable def bodySF : Go.Code:=(Tryd.f9.body).getD .skip
noncomputable def rSF0 : Go.Code:=match bodySF with | .seq a _ => a | _ => .skip
noncomputable def rSF1 : Go.Code:=match bodySF with | .seq _ (.seq a _) => a | _ => .skip
theorem bodySF_eq : bodySF = .seq rSF0 (.seq rSF1 .ret):=rfl
noncomputable def opsSF1 : Array Oper:=match rSF1 with | .region _ ops _ => ops | _ => #[]
theorem rSF1_eq : rSF1 = .region 1 opsSF1 false:=rfl
theorem opsSF1_range : List.range opsSF1.size = [0,1,2,3,4,5,6,7,8]:=rfl
abbrev oSF1_0 : Oper:={ dst:=some 10,op:=Go.Op.move (Go.Operand.tmp 0),type:=23,pos := "l5_choosing.go:211", after:=#[],guard:=none }
theorem opsSF1_0 : opsSF1[0]? = some oSF1_0:=rfl
abbrev oSF1_1 : Oper:={ dst:=some 11,op:=Go.Op.move (Go.Operand.tmp 1),type:=24,pos := "l5_choosing.go:211", after:=#[],guard:=none }
theorem opsSF1_1 : opsSF1[1]? = some oSF1_1:=rfl
abbrev oSF1_2 : Oper:={ dst:=some 12,op:=Go.Op.move (Go.Operand.tmp 2),type:=24,pos := "l5_choosing.go:211", after:=#[],guard:=none }
theorem opsSF1_2 : opsSF1[2]? = some oSF1_2:=rfl
abbrev oSF1_3 : Oper:={ dst:=some 13,op:=Go.Op.move (Go.Operand.tmp 3),type:=3,pos := "l5_choosing.go:211", after:=#[],guard:=none }
theorem opsSF1_3 : opsSF1[3]? = some oSF1_3:=rfl
abbrev oSF1_4 : Oper:={ dst:=some 14,op:=Go.Op.call { callee:=Go.Callee.value (Go.Operand.func 33),args:=#[Go.Operand.tmp 10,Go.Operand.tmp 11,Go.Operand.tmp 12,Go.Operand.tmp 13,Go.Operand.const (Go.Value.bool false)],argTypes:=#[23,24,24,3,4] },type:=28,pos := "l5_choosing.go:211", after:=#[{ on:=0,ground:=Go.Ground.data },{ on:=1,ground:=Go.Ground.data },{ on:=2,ground:=Go.Ground.data },{ on:=3,ground:=Go.Ground.data }],guard:=none }
theorem opsSF1_4 : opsSF1[4]? = some oSF1_4:=rfl
abbrev oSF1_5 : Oper:={ dst:=some 15,op:=Go.Op.extract (Go.Operand.tmp 14) 0,type:=27,pos := "l5_choosing.go:211", after:=#[{ on:=4,ground:=Go.Ground.data }],guard:=none }
theorem opsSF1_5 : opsSF1[5]? = some oSF1_5:=rfl
abbrev oSF1_6 : Oper:={ dst:=some 16,op:=Go.Op.extract (Go.Operand.tmp 14) 1,type:=4,pos := "l5_choosing.go:211", after:=#[{ on:=4,ground:=Go.Ground.data }],guard:=none }
theorem opsSF1_6 : opsSF1[6]? = some oSF1_6:=rfl
abbrev oSF1_7 : Oper:={ dst:=some 8,op:=Go.Op.assign (Go.Operand.tmp 15),type:=27,pos := "l5_choosing.go:211", after:=#[{ on:=5,ground:=Go.Ground.data },{ on:=4,ground:=Go.Ground.chain },{ on:=0,ground:=Go.Ground.phase },{ on:=1,ground:=Go.Ground.phase },{ on:=2,ground:=Go.Ground.phase },{ on:=3,ground:=Go.Ground.phase },{ on:=4,ground:=Go.Ground.phase },{ on:=5,ground:=Go.Ground.phase },{ on:=6,ground:=Go.Ground.phase }],guard:=none }
theorem opsSF1_7 : opsSF1[7]? = some oSF1_7:=rfl
abbrev oSF1_8 : Oper:={ dst:=some 9,op:=Go.Op.assign (Go.Operand.tmp 16),type:=4,pos := "l5_choosing.go:211", after:=#[{ on:=6,ground:=Go.Ground.data },{ on:=7,ground:=Go.Ground.chain },{ on:=0,ground:=Go.Ground.phase },{ on:=1,ground:=Go.Ground.phase },{ on:=2,ground:=Go.Ground.phase },{ on:=3,ground:=Go.Ground.phase },{ on:=4,ground:=Go.Ground.phase },{ on:=5,ground:=Go.Ground.phase },{ on:=6,ground:=Go.Ground.phase },{ on:=7,ground:=Go.Ground.phase }],guard:=none }
theorem opsSF1_8 : opsSF1[8]? = some oSF1_8:=rfl
section
variable {St : Nat -> Prop} {W0 : World} {Post : Value -> World -> Prop}
set_option maxHeartbeats 4000000 in
set_option maxRecDepth 100000 in
theorem jo_first {m : Fm} {ms : List Fm} {w : World} {ops : Array Oper} {i : Nat} {rest : List Nat} {k : List Item} {o : Oper} {args : Array Operand} {ats : Array TypeId} {A1 A2 A3 : Option Addr} {n1 c1 n2 c2 n3 c3 : Nat} {rooms : List Int} {ds ts : List DeedD} {tn : Int}
  (hr : m.ret = false) (hmf : inL olL m.fn = false) (htd : m.todo = .inRegion ops (i :: rest) :: k) (ho : ops[i]? = some o) (hwt : Region.wanted o (yielded ops m.tmps) = true) (hop : o.op = .call ⟨.value (.func 9),args,ats⟩)
  (hv : args.map m.eval = #[.slice A1 n1 c1,.slice A2 n2 c2,.slice A3 n3 c3,.int .i64 tn]) (h1 : Slc w 0 w.heap.size 1 A1 n1 c1 (ints rooms)) (h2 : Slc w 0 w.heap.size 3 A2 n2 c2 (deeds ds)) (h3 : Slc w 0 w.heap.size 3 A3 n3 c3 (deeds ts)) (hn1 : n1 <= 1048576) (hn2 : n2 <= 1048576) (hn3 : n3 <= 1048576)
  (hT : TabW w) (hTU : TabU w) (hU1 : BlkU w A1) (hU2 : BlkU w A2) (hU3 : BlkU w A3)
  (hJ : ∀ wn A n c,Bl w.heap.size w wn -> OwnV 31 2 wn w.heap.size wn.heap.size A n c (svals (servedF rooms ds ts tn false).1) -> JS St W0 Post (m.fin ops i rest k (.tuple #[.slice A n c,.bool (servedF rooms ds ts tn false).2])) ms wn) : JS St W0 Post m ms w:=by
 have L:=lvF
 have hfo : inL olL 9 = false:=by kernel_rfl
 have hcn:=JO.callN (St:=St) (W0:=W0) (Post:=Post) (ms:=ms) (w:=w) (fn:=Tryd.f9) (c:=bodySF) L hr htd ho hwt hop hfo
 refine hcn Tryd.func9 (by decide) rfl ?_
 rw [hv]
 have hent : (#[.slice A1 n1 c1,.slice A2 n2 c2,.slice A3 n3 c3,.int .i64 tn] : Array Value) ++ Array.replicate ((Tryd.f9).ntmps - (#[.slice A1 n1 c1,.slice A2 n2 c2,.slice A3 n3 c3,.int .i64 tn] : Array Value).size) undef = #[.slice A1 n1 c1,.slice A2 n2 c2,.slice A3 n3 c3,.int .i64 tn,undef,undef,undef,undef,undef,undef,undef,undef,undef,undef,undef,undef,undef]:=by
  have e : (Tryd.f9).ntmps = 17:=rfl
  rw [e]
  apply Array.ext'
  simp only [Array.toList_append,Array.toList_replicate,List.size_toArray,List.length_cons,List.length_nil]
  rfl
 rw [hent,bodySF_eq]
 have hback : ∀ (tmps : Array Value) (td : List Item) (A' : Option Addr) (n' c' : Nat) (w' : World),tmps.getD 8 undef = .slice A' n' c' -> tmps.getD 9 undef = .bool (servedF rooms ds ts tn false).2 -> Bl w.heap.size w w' -> OwnV 31 2 w' w.heap.size w'.heap.size A' n' c' (svals (servedF rooms ds ts tn false).1) -> JS St W0 Post ⟨9,tmps,td,true⟩ (m :: ms) w':=by
  intro tmps td A' n' c' w' e8 e9 hb hown
  refine JO.back L rfl htd Tryd.func9 (v:=.tuple #[.slice A' n' c',.bool (servedF rooms ds ts tn false).2]) ?_ hmf (hJ w' A' n' c' hb hown)
  show (resS [.tmp 8,.tmp 9] tmps).run _ _ = _
  simp only [resS,resOne,e8,e9]
  rfl
 refine JO.seq L hfo ?_
 refine JO.pieceQ L (by kernel_rfl) hfo (λ Tp Q HQ => ?_)
 simp only [rSF0,bodySF,Tryd.f9,Option.getD_some]
 go_wp2
 refine HQ.out _ _ ?_
 clear HQ
 have B1 : Bl w.heap.size w (Tt.tp w Tp 0):=(Bl.refl _ w).tp Tp 0
 have hT1 : TabW (Tt.tp w Tp 0):=tabIs_heap rfl hT
 have hTU1 : TabU (Tt.tp w Tp 0):=hTU
 have hU11 : BlkU (Tt.tp w Tp 0) A1:=hU1
 have hU21 : BlkU (Tt.tp w Tp 0) A2:=hU2
 have hU31 : BlkU (Tt.tp w Tp 0) A3:=hU3
 have h11:=h1.bl B1
 have h21:=h2.bl B1
 have h31:=h3.bl B1
 have hz : (Tt.tp w Tp 0).heap.size = w.heap.size:=rfl
 generalize Tt.tp w Tp 0 = w1 at B1 hT1 hTU1 hU11 hU21 hU31 h11 h21 h31 hz ⊢
 refine JO.seq L hfo ?_
 generalize hk0 : ([Item.code .ret] : List Item) = K0
 rw [rSF1_eq]
 refine JO.reg L hfo ?_
 rw [opsSF1_range]
 refine JO.opv L (v:=.slice A1 n1 c1) hfo opsSF1_0 rfl (λ T e => rfl) ?_
 simp only [Go.Act.put,List.setIfInBounds_toArray,List.set_cons_zero,List.set_cons_succ]
 refine JO.opv L (v:=.slice A2 n2 c2) hfo opsSF1_1 rfl (λ T e => rfl) ?_
 simp only [Go.Act.put,List.setIfInBounds_toArray,List.set_cons_zero,List.set_cons_succ]
 refine JO.opv L (v:=.slice A3 n3 c3) hfo opsSF1_2 rfl (λ T e => rfl) ?_
 simp only [Go.Act.put,List.setIfInBounds_toArray,List.set_cons_zero,List.set_cons_succ]
 refine JO.opv L (v:=.int .i64 tn) hfo opsSF1_3 rfl (λ T e => rfl) ?_
 simp only [Go.Act.put,List.setIfInBounds_toArray,List.set_cons_zero,List.set_cons_succ]
 have ext : ∀ (a b : Value) (W : World),(Instr.extract (.tuple #[a,b]) 0).run Tryd.prog W = .ok a W /\ (Instr.extract (.tuple #[a,b]) 1).run Tryd.prog W = .ok b W:=λ a b W => ⟨by simp [Instr.extract,go_sem],by simp [Instr.extract,go_sem]⟩
 refine jo_serve (ops:=opsSF1) (i:=4) (o:=oSF1_4) (A1:=A1) (A2:=A2) (A3:=A3) (rooms:=rooms) (ds:=ds) (ts:=ts) (tn:=tn) (ar:=false) rfl rfl opsSF1_4 rfl rfl (by kernel_rfl) (by simp [Fm.eval]) h11 h21 h31 hn1 hn2 hn3 hT1 hTU1 hU11 hU21 hU31 (λ hok wn hb => ?_) (λ hok wn A n c hs => ?_)
 ·simp only [Fm.fin,opsSF1_4,Option.bind_some,List.setIfInBounds_toArray,List.set_cons_zero,List.set_cons_succ]
  have hb' : Bl w.heap.size w wn:=B1.trans ⟨hb.size,λ b hb' => hb.block b (by omega)⟩
  have hF : servedF rooms ds ts tn false = ([],false):=by unfold servedF; rw [hok]; rfl
  refine JO.opv L (v:=.slice none 0 0) hfo opsSF1_5 rfl (λ T e => run_bv ((ext _ _ _).1)) ?_
  simp only [Go.Act.put,List.setIfInBounds_toArray,List.set_cons_zero,List.set_cons_succ]
  refine JO.opv L (v:=.bool false) hfo opsSF1_6 rfl (λ T e => run_bv ((ext _ _ _).2)) ?_
  simp only [Go.Act.put,List.setIfInBounds_toArray,List.set_cons_zero,List.set_cons_succ]
  refine JO.opv L (v:=.slice none 0 0) hfo opsSF1_7 rfl (λ T e => rfl) ?_
  simp only [Go.Act.put,List.setIfInBounds_toArray,List.set_cons_zero,List.set_cons_succ]
  refine JO.opv L (v:=.bool false) hfo opsSF1_8 rfl (λ T e => rfl) ?_
  simp only [Go.Act.put,List.setIfInBounds_toArray,List.set_cons_zero,List.set_cons_succ]
  refine JO.regEnd L hfo ?_
  subst hk0
  refine JO.ret L hfo ?_
  exact hback _ _ none 0 0 _ rfl (by rw [hF]; rfl) hb' (by rw [hF]; exact OwnV.nil _ _ _)
 ·simp only [Fm.fin,opsSF1_4,Option.bind_some,List.setIfInBounds_toArray,List.set_cons_zero,List.set_cons_succ]
  have hb' : Bl w.heap.size w wn:=B1.trans ⟨hs.below.size,λ b hb' => hs.below.block b (by omega)⟩
  have hF : servedF rooms ds ts tn false = (serveF ts false tn.toNat (runF rooms ds).1 0,true):=by unfold servedF; rw [hok]; rfl
  refine JO.opv L (v:=.slice A n c) hfo opsSF1_5 rfl (λ T e => run_bv ((ext _ _ _).1)) ?_
  simp only [Go.Act.put,List.setIfInBounds_toArray,List.set_cons_zero,List.set_cons_succ]
  refine JO.opv L (v:=.bool true) hfo opsSF1_6 rfl (λ T e => run_bv ((ext _ _ _).2)) ?_
  simp only [Go.Act.put,List.setIfInBounds_toArray,List.set_cons_zero,List.set_cons_succ]
  refine JO.opv L (v:=.slice A n c) hfo opsSF1_7 rfl (λ T e => rfl) ?_
  simp only [Go.Act.put,List.setIfInBounds_toArray,List.set_cons_zero,List.set_cons_succ]
  refine JO.opv L (v:=.bool true) hfo opsSF1_8 rfl (λ T e => rfl) ?_
  simp only [Go.Act.put,List.setIfInBounds_toArray,List.set_cons_zero,List.set_cons_succ]
  refine JO.regEnd L hfo ?_
  subst hk0
  refine JO.ret L hfo ?_
  exact hback _ _ A n c _ rfl (by rw [hF]; rfl) hb' (by rw [hF]; have:=hs.own; rw [hz] at this; exact this)
end
end Go.Proofs.YtkfafknliihabaaDoor
namespace Go.Proofs.YtkfafknliihabaaDoor
open Go.RowKit Go.Conc
end Go.Proofs.YtkfafknliihabaaDoor
namespace Go.Proofs.YtkfafknliihabaaDoor
open Go.RowKit Go.Mt Go.Conc Go.Tt
theorem ints_plain {l : List Int} : ∀ v ∈ ints l,plainV v:=by
 intro v hv
 obtain ⟨x,_,rfl⟩:=List.mem_map.1 hv
 exact .inl ⟨_,_,rfl⟩
theorem deeds_plain {l : List DeedD} : ∀ v ∈ deeds l,plainV v:=by
 intro v hv
 obtain ⟨d,_,hd⟩:=List.mem_flatMap.1 hv
 simp only [DeedD.cells,List.mem_cons,List.not_mem_nil,or_false] at hd
 rcases hd with rfl | rfl | rfl
 all_goals first
  | exact .inl ⟨_,_,rfl⟩
  | exact .inr (.inl ⟨_,rfl⟩)
theorem TabW.bls {w w' : World} (h : TabW w) {B : Nat} (hb : Bl B w w') (hB : w.heap.size <= B) : TabW w':=by
 have hb' : Below w.heap.size w { w' with os:=w.os,tape:=w.tape,output:=w.output }:=⟨rfl,rfl,rfl,hb.size,λ b hbb => hb.block b (by omega)⟩
 exact tabIs_heap (w:={ w' with os:=w.os,tape:=w.tape,output:=w.output }) rfl (h.below hb')
theorem TabU.bls {w w' : World} (h : TabU w) {B : Nat} (hb : Bl B w w') (hB : w.heap.size <= B) : TabU w':=by
 intro g hg
 obtain ⟨c,T,fz,hc,hu⟩:=h g hg
 exact ⟨c,T,fz,(hb.block g (by have:=(Array.getElem?_eq_some_iff.1 hc).1; omega)).trans hc,hu⟩
end Go.Proofs.YtkfafknliihabaaDoor
namespace Go.Proofs.YtkfafknliihabaaDoor
open Go.ChangeShapes Go.WideShapes Go.ChangeAt Go.RowKit Go.Mt Go.Conc Go.Tt
def laidL : List (String × DataW Unit):=[("math/bits.deBruijn32tab", Rows.laid_math_bits_deBruijn32tab),("math/bits.deBruijn64tab", Rows.laid_math_bits_deBruijn64tab),("internal/strconv.uint64pow10", Rows.laid_internal_strconv_uint64pow10)]
set_option maxRecDepth 100000 in
theorem door_met (os : Os) (args : Array Value) : laidMetH Tryd.prog laidL ((World.doorLaid Tryd.prog 400 os).forCall (λ _ _ => 0) ⟨#[],args,[]⟩).memory:=
 laidMetH_of_parts3 (fuel:=8) (laidMet_of_run' 8 (by kernel_rfl) (by kernel_rfl)) (by kernel_rfl) (by kernel_rfl)
theorem pow_eq : Rows.laid_internal_strconv_uint64pow10 (H:=Unit) = Lib.tabData .u64 Lib.pow10Tab:=by kernel_rfl
theorem of_laid {W : World} (h : laidMetH Tryd.prog laidL W) : TabW W:=by
 rw [MakeChecks.laidMetH_plain _ _ _ (by kernel_rfl)] at h
 obtain ⟨ps,⟨g0,t0,cs0,f0,p0,q0,hg0,ht0,hv0,hd0,⟨g1,t1,cs1,f1,p1,q1,hg1,ht1,hv1,hd1,⟨g2,t2,cs2,f2,p2,q2,hg2,ht2,hv2,hd2,_,_⟩,_⟩,_⟩,_⟩:=h
 have e1 : Tryd.prog.globalNamed "internal/strconv.uint64pow10" = some 0:=by kernel_rfl
 have e2 : (Tryd.prog.globals[0]?).map (·.type) = some 157:=by kernel_rfl
 obtain rfl:=Option.some.inj (e1.symm.trans hg2)
 obtain rfl:=Option.some.inj (e2.symm.trans ht2)
 rw [pow_eq] at hd2
 unfold TabW Lib.TabIs
 rw [hv2,<- Lib.cells_of_tab Tryd.underlying157 Tryd.underlying90 (by kernel_rfl) (by kernel_rfl) hd2]
theorem var_cells {W : World} {nm : String} {g : Nat} {cs : Array Value} (hg : Tryd.prog.globalNamed nm = some g) (h : W.var? Tryd.prog nm = some cs) : ∃ T fz,W.heap[g]? = some (.cells cs T fz):=by
 unfold World.var? at h
 rw [hg] at h
 simp only [Option.bind_some] at h
 split at h
 ·rename_i c T fz hb
  injection h with h
  subst h
  exact ⟨T,fz,hb⟩
 ·cases h
theorem tab_cases (g : Nat) (h : tabOk Tryd.prog g = true) : Tryd.prog.globalNamed "math/bits.deBruijn32tab" = some g \/ Tryd.prog.globalNamed "math/bits.deBruijn64tab" = some g \/ Tryd.prog.globalNamed "internal/strconv.uint64pow10" = some g:=by
 have hall : ((List.range Tryd.prog.globals.size).all λ g => !(tabOk Tryd.prog g) || decide (Tryd.prog.globalNamed "math/bits.deBruijn32tab" = some g) || decide (Tryd.prog.globalNamed "math/bits.deBruijn64tab" = some g) || decide (Tryd.prog.globalNamed "internal/strconv.uint64pow10" = some g)) = true:=by kernel_rfl
 have hlt : g < Tryd.prog.globals.size:=by
  unfold tabOk at h
  cases e : Tryd.prog.globals[g]? with
  | none => rw [e] at h; cases h
  | some x => exact (Array.getElem?_eq_some_iff.1 e).1
 have:=List.all_eq_true.1 hall g (List.mem_range.2 hlt)
 simp only [h,Bool.not_true,Bool.false_or,Bool.or_eq_true,decide_eq_true_eq] at this
 rcases this with (h | h) | h
 ·exact .inl h
 ·exact .inr (.inl h)
 ·exact .inr (.inr h)
theorem cells_of_laid {W : World} (h : laidMetH Tryd.prog laidL W) (g : Nat) (hg : tabOk Tryd.prog g = true) : ∃ c T fz,W.heap[g]? = some (.cells c T fz):=by
 rw [MakeChecks.laidMetH_plain _ _ _ (by kernel_rfl)] at h
 obtain ⟨ps,⟨g0,t0,cs0,f0,p0,q0,hg0,ht0,hv0,hd0,⟨g1,t1,cs1,f1,p1,q1,hg1,ht1,hv1,hd1,⟨g2,t2,cs2,f2,p2,q2,hg2,ht2,hv2,hd2,_,_⟩,_⟩,_⟩,_⟩:=h
 rcases tab_cases g hg with e | e | e
 ·exact ⟨cs0,var_cells e hv0⟩
 ·exact ⟨cs1,var_cells e hv1⟩
 ·exact ⟨cs2,var_cells e hv2⟩
def xArg (A : Option Addr) (b : Nat) : Bool:=match A with | some a => decide (a.block = b) | none => false
noncomputable def startX (A1 A2 A3 : Option Addr) (b : Nat) : Bool:=tabOk Tryd.prog b || xArg A1 b || xArg A2 b || xArg A3 b
theorem xArg_some {A : Option Addr} {b : Nat} (h : xArg A b = true) : ∃ a,A = some a /\ a.block = b:=by
 unfold xArg at h
 cases A with
 | none => cases h
 | some a => exact ⟨a,rfl,of_decide_eq_true h⟩
theorem startX_cells {W : World} {A1 A2 A3 : Option Addr} (hL : laidMetH Tryd.prog laidL W) (h1 : ∀ a,A1 = some a -> a.spot = none /\ ∃ c T fz,W.heap[a.block]? = some (.cells c T fz)) (h2 : ∀ a,A2 = some a -> a.spot = none /\ ∃ c T fz,W.heap[a.block]? = some (.cells c T fz)) (h3 : ∀ a,A3 = some a -> a.spot = none /\ ∃ c T fz,W.heap[a.block]? = some (.cells c T fz)) (b : Nat) (hb : startX A1 A2 A3 b = true) : ∃ c T fz,W.heap[b]? = some (.cells c T fz):=by
 unfold startX at hb
 simp only [Bool.or_eq_true] at hb
 rcases hb with ((hb | hb) | hb) | hb
 ·exact cells_of_laid hL b hb
 ·obtain ⟨a,e,rfl⟩:=xArg_some hb; exact (h1 a e).2
 ·obtain ⟨a,e,rfl⟩:=xArg_some hb; exact (h2 a e).2
 ·obtain ⟨a,e,rfl⟩:=xArg_some hb; exact (h3 a e).2
theorem oaR_start {X : Nat -> Bool} {A : Option Addr} (h : ∀ a,A = some a -> X a.block = true) : OaR (R0 X) A A:=by
 cases A with
 | none => exact .none
 | some a =>
  have:=h a rfl
  obtain ⟨bl,of,sp⟩:=a
  exact .some (.mk ⟨rfl,this⟩)
theorem tabU_start {S : FuncId -> Prop} {X : Nat -> Bool} {W : World} (hX : ∀ b,X b = true -> ∃ c T fz,W.heap[b]? = some (.cells c T fz)) (hT : ∀ g,tabOk Tryd.prog g = true -> X g = true) : TabU (gStartX S X W):=by
 intro g hg
 obtain ⟨c,T,fz,hc⟩:=hX g (hT g hg)
 refine ⟨_,_,_,gStartX_in hc (hT g hg),λ v hv => ?_⟩
 obtain ⟨u,_,rfl⟩:=Array.mem_map.1 hv
 exact (gv_spec S u).1
theorem gv_ints (S : FuncId -> Prop) (zs : List Int) : ((zs.map λ z => Value.int .u64 z).toArray).map (gv S) = (zs.map λ z => Value.int .u64 z).toArray:=by
 apply Array.ext'
 simp only [Array.toList_map,List.map_map]
 exact List.map_congr_left λ z _ => (gv_spec S _).2.2 (.inl ⟨_,_,rfl⟩)
theorem tabW_start {S : FuncId -> Prop} {X : Nat -> Bool} {W : World} (hX : ∀ b,X b = true -> ∃ c T fz,W.heap[b]? = some (.cells c T fz)) (hT : ∀ g,tabOk Tryd.prog g = true -> X g = true) (h : TabW W) : TabW (gStartX S X W):=by
 have e1 : Tryd.prog.globalNamed "internal/strconv.uint64pow10" = some 0:=by kernel_rfl
 have e2 : tabOk Tryd.prog 0 = true:=by kernel_rfl
 unfold TabW Lib.TabIs at *
 obtain ⟨T,fz,hc⟩:=var_cells e1 h
 have hc':=gStartX_in (S:=S) hc (hT _ e2)
 unfold World.var?
 rw [e1]
 simp only [Option.bind_some,hc']
 exact congrArg some (gv_ints S _)
end Go.Proofs.YtkfafknliihabaaDoor
namespace Go.Proofs.YtkfafknliihabaaDoor
theorem and_mk {a b : Bool} (h : a = true) (k : b = true) : (a && b) = true:=by rw [h,k]; rfl
namespace Facts
theorem laidOut : laidOutB Tryd.pinned.checked.prog = true:=by kernel_rfl
theorem mapsRowed : mapsRowed Tryd.pinned.checked.prog = true:=by kernel_rfl
theorem stops : (Tryd.pinned.checked.prog.stops == []) = true:=by kernel_rfl
theorem stopKnobs : (Tryd.pinned.checked.prog.stopKnobs == []) = true:=by kernel_rfl
theorem plainKeys : (Rows.fnServeFirstRow.plainKeys == Tryd.pinned.checked.prog.plainKeys) = true:=by kernel_rfl
theorem stopsHeard : Tryd.pinned.checked.prog.stopsHeard = true:=by kernel_rfl
theorem mayEnter : Tryd.pinned.checked.prog.mayEnter = true:=by kernel_rfl
theorem lifted : (Rows.fnServeFirstRow.lifted == Tryd.pinned.checked.prog.liftsFinal) = true:=by kernel_rfl
theorem make : (Tryd.pinned.checked.prog.make == some Rows.fnServeFirstRow.make) = true:=by kernel_rfl
theorem mainIs : Tryd.pinned.checked.prog.mainIs = some (Rows.fnServeFirstCard.stood.harness.1,Rows.fnServeFirstCard.stood.harness.2.toList):=by kernel_rfl
theorem looks : Rows.fnServeFirstCard.stood.looks = Tryd.pinned.checked.prog.looks []:=by kernel_rfl
end Facts
end Go.Proofs.YtkfafknliihabaaDoor
namespace Go.Proofs.YtkfafknliihabaaDoor
open Go.RowKit
structure DSt (w0 : World) (g : Nat) (A : Option Addr) (n c q : Nat) (E s : Nat) (v : Value) (k : Nat) (xs : List Value) (W : World) : Prop where
 rd : Rd W g A n c q
 own : W.ownsRow w0.heap.size E s v k xs
 gr : w0.grownBy W (some g)
 hg : g < w0.heap.size
section
variable {w0 : World} {g : Nat} {A : Option Addr} {n c q : Nat} {E s : Nat} {v : Value} {k : Nat} {xs : List Value} {W W' : World}
theorem DSt.hb (h : DSt w0 g A n c q E s v k xs W) : w0.heap.size <= W.heap.size:=h.gr.size
theorem DSt.notg (h : DSt w0 g A n c q E s v k xs W) : v.ownBlock ≠ some g:=λ e => by
 have:=(h.own.lt g e).1; have:=h.hg; omega
theorem DSt.alloc (h : DSt w0 g A n c q E s v k xs W) (o : Obj) : DSt w0 g A n c q E s v k xs (W.alloc o):=
 ⟨h.rd.alloc o,h.own.alloc o,gb_al h.gr o,h.hg⟩
theorem DSt.grown {q' : Nat} (h : DSt w0 g A n c q E s v k xs W) (hr : Rd W' g A n c q') (hg : W.grownBy W' (some g)) : DSt w0 g A n c q' E s v k xs W':=
 ⟨hr,h.own.kept hg (.inr h.notg),gb_trans h.gr hg,h.hg⟩
theorem DSt.below (h : DSt w0 g A n c q E s v k xs W) (hb : Below W.heap.size W W') : DSt w0 g A n c q E s v k xs W':=
 ⟨h.rd.below hb,h.own.kept (row:=none) ⟨hb.os,hb.tape,hb.output,hb.size,λ i hi _ => hb.block i hi⟩ (by cases hv : v.ownBlock <;> simp),gb_trans h.gr (gb_below hb _),h.hg⟩
theorem DSt.wide {q' : Nat} (h : DSt w0 g A n c q E s v k xs W) (hq : q <= q') : DSt w0 g A n c q' E s v k xs W:=
 ⟨h.rd.mono hq,h.own,h.gr,h.hg⟩
theorem DSt.aside {row : Option Nat} (h : DSt w0 g A n c q E s v k xs W) (hg : W.grownBy W' row) (hne : v.ownBlock = none \/ v.ownBlock ≠ row) (hy : ∀ b,row = some b -> w0.heap.size <= b) : DSt w0 g A n c q E s v k xs W':=
 ⟨h.rd.keep λ b hb => hg.block b (Nat.lt_of_le_of_lt hb h.rd.gblt) (λ e => by have:=hy b e.symm; have:=h.hg; omega),h.own.kept hg hne,
  ⟨hg.os.trans h.gr.os,hg.tape.trans h.gr.tape,hg.output.trans h.gr.output,Nat.le_trans h.gr.size hg.size,λ i hi hne => (hg.block i (Nat.lt_of_lt_of_le hi h.gr.size) (λ e => by have:=hy i e.symm; omega)).trans (h.gr.block i hi hne)⟩,h.hg⟩
theorem DSt.app {v' : Value} {k' : Nat} {xs' : List Value} (h : DSt w0 g A n c q E s v k xs W) (ho : W'.ownsRow w0.heap.size E s v' k' xs') (hg : W.grownBy W' v.ownBlock) : DSt w0 g A n c q E s v' k' xs' W':=
 ⟨h.rd.keep λ b hb => hg.block b (Nat.lt_of_le_of_lt hb h.rd.gblt) (λ e => by have:=(h.own.lt b e.symm).1; have:=h.hg; omega),ho,
  ⟨hg.os.trans h.gr.os,hg.tape.trans h.gr.tape,hg.output.trans h.gr.output,Nat.le_trans h.gr.size hg.size,λ i hi hne => (hg.block i (Nat.lt_of_lt_of_le hi h.gr.size) (λ e => by have:=(h.own.lt i e.symm).1; omega)).trans (h.gr.block i hi hne)⟩,h.hg⟩
theorem DSt.fresh {v' : Value} {k' : Nat} {xs' : List Value} {E' s' : Nat} (h : DSt w0 g A n c q E s v k xs W) (ho : W.ownsRow w0.heap.size E' s' v' k' xs') : DSt w0 g A n c q E' s' v' k' xs' W:=
 ⟨h.rd,ho,h.gr,h.hg⟩
end
theorem DSt.init {W : World} {g : Nat} {A : Option Addr} {n c q : Nat} (E s : Nat) (h : Rd W g A n c q) :
  DSt W g A n c q E s (.slice (some ⟨W.heap.size,0,none⟩) 0 0) 0 [] (W.alloc (.cells #[] E)):=
 ⟨h.alloc _,World.ownsRow_made W #[] 0 (Nat.le_refl _) (Nat.zero_le _) (by simp),gb_al (World.grownBy.refl _ _) _,h.gblt⟩
theorem int_pred {j : Nat} (h : 0 < j) : Value.int .i64 ((j : Int) - 1) = .int .i64 ((j - 1 : Nat) : Int):=by congr 1; omega
theorem num_lits {w : World} {l : Nat} {xs : List Int} {T : TypeId} {fz : Nat × Nat} (h : w.heap[l]? = some (.cells (xs.map (Value.int .i64)).toArray T fz)) {k : Nat} (hk : xs.length = k) :
  ∀ j,j < k -> ∃ v : Int,w.cell? ⟨l,0 + j,none⟩ = some (.int .i64 v):=
 cells_of_blk h k λ j hj => ⟨xs[j]'(by omega),by simp [hk,hj]⟩
end Go.Proofs.YtkfafknliihabaaDoor
