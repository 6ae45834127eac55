/-
 'FnDeedsServed' answers true whatever the input, and its arguments read afterwards as before; the listed tables are tied to the program's text. No condition.
-/
import Derived.Test.YtkfafknliihabaaDoorCards
import Derived.Test.YtkfafknliihabaaDoorTie
import Derived.Conc.LeavingOf
import Derived.Test.YtkfafknliihabaaDoorDdsPq11
set_option linter.unusedSectionVars false
set_option linter.unusedSimpArgs false
set_option linter.unusedVariables false
namespace Go.Proofs.YtkfafknliihabaaDoor.fnDeedsServed
open Go.RowKit Go.ChangeShapes Go.WideShapes Go.ChangeAt Go.Joins Go.Deep Go.Conc Go.Mt Go.Tt
theorem funcNo : Tryd.pinned.checked.prog.funcNamed "loop.example/channelboard/laws.FnDeedsServed" = some 5:=by kernel_rfl
theorem laid0 : Tryd.prog.globals.size < (begin Tryd.prog (λ _ _ => 0) default).world.heap.size:=of_decide_eq_true (by kernel_rfl)
theorem shaped_size {W : World} (h : W.ShapedOpen Tryd.prog) : Tryd.prog.globals.size <= W.heap.size:=by
 obtain ⟨_,h2⟩:=h
 obtain ⟨o,_,h3,_⟩:=h2 Tryd.prog.globals.size (Nat.le_refl _) laid0
 exact Nat.le_of_lt (Array.getElem?_eq_some_iff.1 h3).1
set_option maxRecDepth 100000 in
set_option maxHeartbeats 2000000 in
theorem lifted (os : Os) (started : os.Started) (H : Type) (enc : TypeId × Value -> H) :
  ReturnsInLeavingWide {} Tryd.checked os 5 .any (λ w args => (Rows.fnDeedsServedSpec.pre enc Tryd.prog Tryd.f5 [] false w args /\ laidMetH Tryd.prog laidL w) /\ sizedMet enc Tryd.prog Tryd.f5 (OpenSpec.ofChange Rows.fnDeedsServedSpec) false w args)
   (Rows.fnDeedsServedSpec.post enc Tryd.prog Tryd.f5 false true false false):=by
 refine returnsInLeavingWide_of_good (C:=Tryd.checked) own started
  (ChangeSpec.witness_shaped (enc:=enc) (C:=Tryd.checked) (os:=os) (X:=λ w _ => laidMetH Tryd.prog laidL w) false (World.doorLaid Tryd.prog 400 os) #[.slice none 0 0,.slice none 0 0] 8 rfl (World.shaped_of_RefB (by kernel_rfl) (by kernel_rfl)) (by kernel_rfl) (by kernel_rfl) (by kernel_rfl) (door_met os _)) ?_
 intro w tape i _ hsh0 _ hok hpre _
 obtain ⟨_,_,_,fn',hfn',_,_,_,_,hval0⟩:=hok
 obtain rfl : fn' = Tryd.f5:=Option.some.inj (hfn'.symm.trans Tryd.func5)
 obtain ⟨⟨⟨ds,gs,before,hw,hc⟩,hL⟩,hz⟩:=hpre
 have hG:=shaped_size hsh0
 have hW0:=DataW.Whole.of_heap (w':=w.forCall tape i) (by rfl) hw
 have hL' : laidMetH Tryd.prog laidL (w.forCall tape i):=hL.of_heap (by rfl)
 clear hw hz hsh0 hc hL
 obtain ⟨ib,args,iv⟩:=i
 generalize hWW : w.forCall tape ⟨ib,args,iv⟩ = W at *
 have hval : ∀ (j : Nat) t v,Tryd.f5.params[j]? = some t -> args[j]? = some v -> Value.okWide Tryd.prog W .any w.heap.size t v:=hval0
 have hW : DataW.Whole enc Tryd.prog Tryd.f5.params.toList Rows.fnDeedsServedSpec.vars false W args.toList ds gs before:=hW0
 clear hval0 hW0
 have hW':=hW
 obtain ⟨p,q,hA0,hV,rfl,hfz,hnd⟩:=hW
 have hA : DataW.TrodAll enc Tryd.prog W 0 (λ _ => true) true Tryd.f5.params.toList args.toList ds p:=hA0
 rw [Tryd.params5] at hA hval
 obtain ⟨v0,vs0,d0,ds0,p0,q0,hargs,rfl,rfl,h0,r0⟩:=trodAll_cons hA
 obtain ⟨v1,vs1,d1,ds1,p1,q1,rfl,rfl,rfl,h1,r1⟩:=trodAll_cons r0
 obtain ⟨rfl,rfl,rfl⟩:=trodAll_nil r1
 obtain rfl : args = #[v0,v1]:=by cases args; simp_all
 obtain ⟨rfl,rfl⟩:=trodVars_none hV
 have k0:=h0
 have lt0 : ∀ x ∈ p0,x.block < W.heap.size:=by obtain ⟨m,hm⟩:=k0; exact DataW.trod_lt m _ _ _ hm
 obtain ⟨A0,n0,c0,rfl⟩:=okWide_slice Tryd.underlying22 (hval 0 22 v0 rfl rfl)
 have hblk0:=slice_block Tryd.underlying22 (hval 0 22 _ rfl rfl)
 have m0:=read_bytes Tryd.underlying22 Tryd.underlying5 (by kernel_rfl) h0
 have k1:=h1
 have lt1 : ∀ x ∈ p1,x.block < W.heap.size:=by obtain ⟨m,hm⟩:=k1; exact DataW.trod_lt m _ _ _ hm
 obtain ⟨A1,n1,c1,rfl⟩:=okWide_slice Tryd.underlying22 (hval 1 22 v1 rfl rfl)
 have hblk1:=slice_block Tryd.underlying22 (hval 1 22 _ rfl rfl)
 have m1:=read_bytes Tryd.underlying22 Tryd.underlying5 (by kernel_rfl) h1
 clear hA0
 have hX:=startX_cells (A1:=A0) (A2:=A1) (A3:=none) hL' hblk0 hblk1 (λ a e => by cases e)
 have hT : ∀ g,tabOk Tryd.prog g = true -> (startX A0 A1 none) g = true:=λ g e => by simp [startX,e]
 have hY0 : ∀ a,A0 = some a -> (startX A0 A1 none) a.block = true:=λ a e => by simp [startX,xArg,e]
 have hR0 : OaR (R0 (startX A0 A1 none)) A0 A0:=oaR_start hY0
 have hY1 : ∀ a,A1 = some a -> (startX A0 A1 none) a.block = true:=λ a e => by simp [startX,xArg,e]
 have hR1 : OaR (R0 (startX A0 A1 none)) A1 A1:=oaR_start hY1
 have hcd0:=code_start (S:=SF fsF) hX hY0 m0
 have hcd1:=code_start (S:=SF fsF) hX hY1 m1
 have hJ:=jo_law_FD (w:=gStartX (SF fsF) (startX A0 A1 none) W) (St:=St0 (startX A0 A1 none)) (W0:=W) (Post:=λ v w' => v = .bool true /\ Below W.heap.size W w') hcd0 hcd1 (tabW_start hX hT (of_laid hL')) (tabU_start hX hT) (λ R W' hk => ⟨rfl,hk.below⟩)
 have hxs : ArR (SF fsF) P0 (R0 (startX A0 A1 none)) #[.slice A0 n0 c0,.slice A1 n1 c1] #[.slice A0 n0 c0,.slice A1 n1 c1]:=((ArR.empty.push (.slice hR0)).push (.slice hR1))
 have hent : (#[.slice A0 n0 c0,.slice A1 n1 c1] : Array Value) ++ Array.replicate ((Tryd.f5).ntmps - (#[.slice A0 n0 c0,.slice A1 n1 c1] : Array Value).size) undef = #[.slice A0 n0 c0,.slice A1 n1 c1,undef,undef,undef,undef,undef,undef,undef,undef,undef,undef,undef,undef,undef,undef,undef,undef,undef,undef,undef,undef,undef,undef,undef,undef,undef,undef,undef,undef,undef,undef,undef,undef,undef,undef,undef,undef,undef,undef,undef,undef,undef,undef,undef,undef,undef,undef,undef,undef,undef,undef,undef,undef,undef,undef,undef,undef,undef,undef,undef,undef,undef,undef,undef,undef,undef,undef,undef,undef,undef,undef,undef,undef,undef,undef,undef,undef,undef,undef,undef,undef,undef,undef,undef,undef,undef,undef,undef,undef,undef,undef,undef,undef,undef,undef,undef,undef,undef,undef,undef,undef,undef,undef,undef,undef,undef,undef,undef,undef,undef,undef,undef,undef,undef,undef,undef,undef,undef,undef,undef,undef,undef,undef,undef,undef,undef,undef,undef,undef,undef,undef,undef,undef,undef,undef,undef,undef,undef,undef,undef,undef,undef,undef,undef,undef,undef,undef,undef,undef,undef,undef,undef,undef,undef,undef,undef,undef,undef,undef,undef,undef,undef,undef,undef,undef,undef,undef,undef,undef,undef,undef,undef,undef,undef,undef]:=by
  have e : (Tryd.f5).ntmps = 176:=rfl
  rw [e]
  apply Array.ext'
  simp only [Array.toList_append,Array.toList_replicate,List.size_toArray,List.length_cons,List.length_nil]
  rfl
 have hbb : (Tryd.f5).body = some bodyFD:=rfl
 rw [<- hent] at hJ
 have hst:=J.start (Post:=λ v w' => v = .bool true /\ Below W.heap.size W w') lvF (f:=5) (fn:=Tryd.f5) (c:=bodyFD) (by kernel_rfl) (by kernel_rfl) Tryd.func5 hbb hX hT hG hxs hJ
 obtain ⟨M,last,o,w',t',e1,e2,e3,e4⟩:=hst
 refine ⟨M,last,o,w',t',e1,e2,e3,e4.mono λ v hp => ChangeSpec.post_blind ?_⟩
 obtain ⟨rfl,bel⟩:=hp
 exact ⟨_,_,_,[],_,[],hW',trodAll_mk1 (shut_bool Tryd.underlying4 _),(trodAll_cons_mk (Below.trod laidOut (by kernel_rfl) (of_decide_eq_true (by kernel_rfl)) k0 bel lt0) (trodAll_cons_mk (Below.trod laidOut (by kernel_rfl) (of_decide_eq_true (by kernel_rfl)) k1 bel lt1) trodAll_mk0)),rfl,bel.frame _,λ h => by cases h⟩
set_option maxRecDepth 100000 in
set_option maxHeartbeats 8000000 in
theorem closed : joinedFacts Tryd.pinned.checked.prog 5 Tryd.f5 Rows.fnDeedsServedSpec Rows.fnDeedsServedRow = true:=by
 unfold joinedFacts
 exact (and_mk (and_mk (and_mk (and_mk (and_mk (and_mk (and_mk (and_mk (and_mk (and_mk (and_mk (and_mk (and_mk (and_mk (and_mk (and_mk (and_mk (and_mk (and_mk (and_mk (and_mk (and_mk (and_mk (and_mk (and_mk (and_mk (and_mk (and_mk (and_mk (and_mk (and_mk (by as_aux_lemma => kernel_rfl) Facts.laidOut) Facts.mapsRowed) (by as_aux_lemma => kernel_rfl)) (by as_aux_lemma => kernel_rfl)) (by as_aux_lemma => kernel_rfl)) Facts.stops) (by as_aux_lemma => kernel_rfl)) Facts.stopKnobs) (by as_aux_lemma => kernel_rfl)) (by as_aux_lemma => kernel_rfl)) (by as_aux_lemma => kernel_rfl)) (by as_aux_lemma => kernel_rfl)) (by as_aux_lemma => kernel_rfl)) (by as_aux_lemma => kernel_rfl)) (by as_aux_lemma => kernel_rfl)) (by as_aux_lemma => kernel_rfl)) (by as_aux_lemma => kernel_rfl)) (by as_aux_lemma => kernel_rfl)) (by as_aux_lemma => kernel_rfl)) (by as_aux_lemma => kernel_rfl)) (by as_aux_lemma => kernel_rfl)) Facts.plainKeys) (by as_aux_lemma => kernel_rfl)) Facts.stopsHeard) Facts.mayEnter) Facts.lifted) Facts.make) (by as_aux_lemma => kernel_rfl)) (by as_aux_lemma => kernel_rfl)) (by as_aux_lemma => kernel_rfl)) (by as_aux_lemma => kernel_rfl))
theorem over : Rows.fnDeedsServedRow.holds Tryd.pinned (OpenSpec.ofChange Rows.fnDeedsServedSpec):=
 OpenClaim.holds_of_wide_leaving 5 Tryd.f5 rfl rfl rfl rfl rfl rfl rfl ⟨rfl,rfl,rfl,rfl,rfl⟩ rfl rfl rfl rfl rfl funcNo Tryd.func5 closed
  (of_decide_eq_true (by kernel_rfl)) (by unfold Func.isWrapper; first | (rw [if_pos (by decide +kernel)]; kernel_rfl) | (rw [if_neg (by decide +kernel)]; exact ⟨rfl,rfl⟩))
  (λ os started H enc _ => lifted os started H enc)
theorem proved : Rows.FnDeedsServedCardSaid:=
 holds_tied_goes .later Rows.fnDeedsServedCard.laidKinds Rows.fnDeedsServedCard.laidTests Rows.fnDeedsServedCard.stood.harness Rows.fnDeedsServedCard.stood.looks
  over (by kernel_rfl) fnDeedsServed_row_tie rfl ⟨rfl,rfl⟩ Facts.mainIs rfl
  (λ f fn hf hfn => by
   obtain rfl : f = 5:=Option.some.inj (funcNo.symm.trans hf) |>.symm
   obtain rfl : fn = Tryd.f5:=(Option.some.inj (Tryd.func5.symm.trans hfn)).symm
   exact ⟨Facts.looks,λ j t ht => by
    have hm : t ∈ Tryd.f5.params.toList:=by simpa using Array.mem_of_getElem? ht
    have hall : (Tryd.f5.params.toList.all λ u => !Tryd.prog.wantsStandIn u) = true:=by kernel_rfl
    exact (show Tryd.prog.wantsStandIn t = false by simpa using List.all_eq_true.1 hall t hm)⟩)
  (by kernel_rfl)
#print axioms proved
end Go.Proofs.YtkfafknliihabaaDoor.fnDeedsServed
