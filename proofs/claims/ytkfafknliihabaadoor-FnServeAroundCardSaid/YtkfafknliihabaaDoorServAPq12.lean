/-
 Part 12 of what stands behind the last text.
-/
import Derived.ProofKit
import Derived.LaidMore
import Derived.Stop.Joined
import Derived.Test.YtkfafknliihabaaDoorRows
import Derived.Test.YtkfafknliihabaaDoorCards
import Derived.JoinedOf
import Derived.KernelRfl
import Derived.OwnWalk
import Derived.Maps.AppendAt
import Derived.Deep.AppendLies
import Derived.Deep.CutRange
import Derived.SevenTiedAt
import Derived.Test.YtkfafknliihabaaDoorServAPq11
set_option linter.unusedSectionVars false
set_option linter.unusedSimpArgs false
set_option linter.unusedVariables false
namespace Go.Proofs.YtkfafknliihabaaDoor
open Go.ChangeShapes Go.WideShapes Go.ChangeAt Go.RowKit Go.Mt Go.Conc Go.Tt
def laidL : List (String × DataW Unit):=[("math/bits.deBruijn32tab", Rows.laid_math_bits_deBruijn32tab),("math/bits.deBruijn64tab", Rows.laid_math_bits_deBruijn64tab),("internal/strconv.uint64pow10", Rows.laid_internal_strconv_uint64pow10)]
set_option maxRecDepth 100000 in
theorem door_met (os : Os) (args : Array Value) : laidMetH Tryd.prog laidL ((World.doorLaid Tryd.prog 400 os).forCall (λ _ _ => 0) ⟨#[],args,[]⟩).memory:=
 laidMetH_of_parts3 (fuel:=8) (laidMet_of_run' 8 (by kernel_rfl) (by kernel_rfl)) (by kernel_rfl) (by kernel_rfl)
theorem pow_eq : Rows.laid_internal_strconv_uint64pow10 (H:=Unit) = Lib.tabData .u64 Lib.pow10Tab:=by kernel_rfl
theorem of_laid {W : World} (h : laidMetH Tryd.prog laidL W) : TabW W:=by
 rw [MakeChecks.laidMetH_plain _ _ _ (by kernel_rfl)] at h
 obtain ⟨ps,⟨g0,t0,cs0,f0,p0,q0,hg0,ht0,hv0,hd0,⟨g1,t1,cs1,f1,p1,q1,hg1,ht1,hv1,hd1,⟨g2,t2,cs2,f2,p2,q2,hg2,ht2,hv2,hd2,_,_⟩,_⟩,_⟩,_⟩:=h
 have e1 : Tryd.prog.globalNamed "internal/strconv.uint64pow10" = some 0:=by kernel_rfl
 have e2 : (Tryd.prog.globals[0]?).map (·.type) = some 157:=by kernel_rfl
 obtain rfl:=Option.some.inj (e1.symm.trans hg2)
 obtain rfl:=Option.some.inj (e2.symm.trans ht2)
 rw [pow_eq] at hd2
 unfold TabW Lib.TabIs
 rw [hv2,<- Lib.cells_of_tab Tryd.underlying157 Tryd.underlying90 (by kernel_rfl) (by kernel_rfl) hd2]
theorem var_cells {W : World} {nm : String} {g : Nat} {cs : Array Value} (hg : Tryd.prog.globalNamed nm = some g) (h : W.var? Tryd.prog nm = some cs) : ∃ T fz,W.heap[g]? = some (.cells cs T fz):=by
 unfold World.var? at h
 rw [hg] at h
 simp only [Option.bind_some] at h
 split at h
 ·rename_i c T fz hb
  injection h with h
  subst h
  exact ⟨T,fz,hb⟩
 ·cases h
theorem tab_cases (g : Nat) (h : tabOk Tryd.prog g = true) : Tryd.prog.globalNamed "math/bits.deBruijn32tab" = some g \/ Tryd.prog.globalNamed "math/bits.deBruijn64tab" = some g \/ Tryd.prog.globalNamed "internal/strconv.uint64pow10" = some g:=by
 have hall : ((List.range Tryd.prog.globals.size).all λ g => !(tabOk Tryd.prog g) || decide (Tryd.prog.globalNamed "math/bits.deBruijn32tab" = some g) || decide (Tryd.prog.globalNamed "math/bits.deBruijn64tab" = some g) || decide (Tryd.prog.globalNamed "internal/strconv.uint64pow10" = some g)) = true:=by kernel_rfl
 have hlt : g < Tryd.prog.globals.size:=by
  unfold tabOk at h
  cases e : Tryd.prog.globals[g]? with
  | none => rw [e] at h; cases h
  | some x => exact (Array.getElem?_eq_some_iff.1 e).1
 have:=List.all_eq_true.1 hall g (List.mem_range.2 hlt)
 simp only [h,Bool.not_true,Bool.false_or,Bool.or_eq_true,decide_eq_true_eq] at this
 rcases this with (h | h) | h
 ·exact .inl h
 ·exact .inr (.inl h)
 ·exact .inr (.inr h)
theorem cells_of_laid {W : World} (h : laidMetH Tryd.prog laidL W) (g : Nat) (hg : tabOk Tryd.prog g = true) : ∃ c T fz,W.heap[g]? = some (.cells c T fz):=by
 rw [MakeChecks.laidMetH_plain _ _ _ (by kernel_rfl)] at h
 obtain ⟨ps,⟨g0,t0,cs0,f0,p0,q0,hg0,ht0,hv0,hd0,⟨g1,t1,cs1,f1,p1,q1,hg1,ht1,hv1,hd1,⟨g2,t2,cs2,f2,p2,q2,hg2,ht2,hv2,hd2,_,_⟩,_⟩,_⟩,_⟩:=h
 rcases tab_cases g hg with e | e | e
 ·exact ⟨cs0,var_cells e hv0⟩
 ·exact ⟨cs1,var_cells e hv1⟩
 ·exact ⟨cs2,var_cells e hv2⟩
def xArg (A : Option Addr) (b : Nat) : Bool:=match A with | some a => decide (a.block = b) | none => false
noncomputable def startX (A1 A2 A3 : Option Addr) (b : Nat) : Bool:=tabOk Tryd.prog b || xArg A1 b || xArg A2 b || xArg A3 b
theorem xArg_some {A : Option Addr} {b : Nat} (h : xArg A b = true) : ∃ a,A = some a /\ a.block = b:=by
 unfold xArg at h
 cases A with
 | none => cases h
 | some a => exact ⟨a,rfl,of_decide_eq_true h⟩
theorem startX_cells {W : World} {A1 A2 A3 : Option Addr} (hL : laidMetH Tryd.prog laidL W) (h1 : ∀ a,A1 = some a -> a.spot = none /\ ∃ c T fz,W.heap[a.block]? = some (.cells c T fz)) (h2 : ∀ a,A2 = some a -> a.spot = none /\ ∃ c T fz,W.heap[a.block]? = some (.cells c T fz)) (h3 : ∀ a,A3 = some a -> a.spot = none /\ ∃ c T fz,W.heap[a.block]? = some (.cells c T fz)) (b : Nat) (hb : startX A1 A2 A3 b = true) : ∃ c T fz,W.heap[b]? = some (.cells c T fz):=by
 unfold startX at hb
 simp only [Bool.or_eq_true] at hb
 rcases hb with ((hb | hb) | hb) | hb
 ·exact cells_of_laid hL b hb
 ·obtain ⟨a,e,rfl⟩:=xArg_some hb; exact (h1 a e).2
 ·obtain ⟨a,e,rfl⟩:=xArg_some hb; exact (h2 a e).2
 ·obtain ⟨a,e,rfl⟩:=xArg_some hb; exact (h3 a e).2
theorem oaR_start {X : Nat -> Bool} {A : Option Addr} (h : ∀ a,A = some a -> X a.block = true) : OaR (R0 X) A A:=by
 cases A with
 | none => exact .none
 | some a =>
  have:=h a rfl
  obtain ⟨bl,of,sp⟩:=a
  exact .some (.mk ⟨rfl,this⟩)
theorem tabU_start {S : FuncId -> Prop} {X : Nat -> Bool} {W : World} (hX : ∀ b,X b = true -> ∃ c T fz,W.heap[b]? = some (.cells c T fz)) (hT : ∀ g,tabOk Tryd.prog g = true -> X g = true) : TabU (gStartX S X W):=by
 intro g hg
 obtain ⟨c,T,fz,hc⟩:=hX g (hT g hg)
 refine ⟨_,_,_,gStartX_in hc (hT g hg),λ v hv => ?_⟩
 obtain ⟨u,_,rfl⟩:=Array.mem_map.1 hv
 exact (gv_spec S u).1
theorem gv_ints (S : FuncId -> Prop) (zs : List Int) : ((zs.map λ z => Value.int .u64 z).toArray).map (gv S) = (zs.map λ z => Value.int .u64 z).toArray:=by
 apply Array.ext'
 simp only [Array.toList_map,List.map_map]
 exact List.map_congr_left λ z _ => (gv_spec S _).2.2 (.inl ⟨_,_,rfl⟩)
theorem tabW_start {S : FuncId -> Prop} {X : Nat -> Bool} {W : World} (hX : ∀ b,X b = true -> ∃ c T fz,W.heap[b]? = some (.cells c T fz)) (hT : ∀ g,tabOk Tryd.prog g = true -> X g = true) (h : TabW W) : TabW (gStartX S X W):=by
 have e1 : Tryd.prog.globalNamed "internal/strconv.uint64pow10" = some 0:=by kernel_rfl
 have e2 : tabOk Tryd.prog 0 = true:=by kernel_rfl
 unfold TabW Lib.TabIs at *
 obtain ⟨T,fz,hc⟩:=var_cells e1 h
 have hc':=gStartX_in (S:=S) hc (hT _ e2)
 unfold World.var?
 rw [e1]
 simp only [Option.bind_some,hc']
 exact congrArg some (gv_ints S _)
end Go.Proofs.YtkfafknliihabaaDoor
namespace Go.Proofs.YtkfafknliihabaaDoor
theorem and_mk {a b : Bool} (h : a = true) (k : b = true) : (a && b) = true:=by rw [h,k]; rfl
namespace Facts
theorem laidOut : laidOutB Tryd.pinned.checked.prog = true:=by kernel_rfl
theorem mapsRowed : mapsRowed Tryd.pinned.checked.prog = true:=by kernel_rfl
theorem stops : (Tryd.pinned.checked.prog.stops == []) = true:=by kernel_rfl
theorem stopKnobs : (Tryd.pinned.checked.prog.stopKnobs == []) = true:=by kernel_rfl
theorem plainKeys : (Rows.fnServeFirstRow.plainKeys == Tryd.pinned.checked.prog.plainKeys) = true:=by kernel_rfl
theorem stopsHeard : Tryd.pinned.checked.prog.stopsHeard = true:=by kernel_rfl
theorem mayEnter : Tryd.pinned.checked.prog.mayEnter = true:=by kernel_rfl
theorem lifted : (Rows.fnServeFirstRow.lifted == Tryd.pinned.checked.prog.liftsFinal) = true:=by kernel_rfl
theorem make : (Tryd.pinned.checked.prog.make == some Rows.fnServeFirstRow.make) = true:=by kernel_rfl
theorem mainIs : Tryd.pinned.checked.prog.mainIs = some (Rows.fnServeFirstCard.stood.harness.1,Rows.fnServeFirstCard.stood.harness.2.toList):=by kernel_rfl
theorem looks : Rows.fnServeFirstCard.stood.looks = Tryd.pinned.checked.prog.looks []:=by kernel_rfl
end Facts
end Go.Proofs.YtkfafknliihabaaDoor
namespace Go.Proofs.YtkfafknliihabaaDoor
def entD (ts : List DeedD) (p : Nat × List UInt8) : DeedD:=ts.getD p.1 d00
def lastF (ar : Bool) (last : Int) (F : List (Nat × List UInt8)) : Int:=if ar then (match F.getLast? with | some p => (p.1 : Int) | none => last) else last
theorem lastF_nil (ar : Bool) (last : Int) : lastF ar last [] = last:=by cases ar <;> rfl
theorem lastF_cons (ar : Bool) (last : Int) (p : Nat × List UInt8) (F : List (Nat × List UInt8)) : lastF ar last (p :: F) = lastF ar (if ar then (p.1 : Int) else last) F:=by
 cases ar with
 | false => rfl
 | true =>
  unfold lastF
  simp only [if_true]
  rw [List.getLast?_cons]
  cases F.getLast? with
  | none => rfl
  | some q => rfl
theorem runF_snoc (rooms : List Int) (ds : List DeedD) (d : DeedD) : runF rooms (ds ++ [d]) = stepF (runF rooms ds) d:=by
 unfold runF
 rw [List.foldl_append]; rfl
theorem refF_cons {ts : List DeedD} {ar : Bool} {rooms : List Int} {ds : List DeedD} {m : Nat} {last : Int} (h : ¬ nextF (readyUpto ts.length (runF rooms ds).1 ts) last < 0) :
  ∃ p,(p.1 : Int) = nextF (readyUpto ts.length (runF rooms ds).1 ts) last /\ p.2 = (doneF ((runF rooms ds).1.getD (entD ts p).a.toNat l00) (entD ts p)).2 /\
   refF ts ar (m + 1) (runF rooms ds).1 last = p :: refF ts ar m (runF rooms (ds ++ [entD ts p])).1 (if ar then (p.1 : Int) else last):=by
 rw [refF,if_neg h]
 obtain ⟨x,hx⟩:=Int.eq_ofNat_of_zero_le (show 0 <= nextF (readyUpto ts.length (runF rooms ds).1 ts) last by omega)
 rw [hx]
 refine ⟨(x,(doneF ((runF rooms ds).1.getD (ts.getD x d00).a.toNat l00) (ts.getD x d00)).2),rfl,rfl,?_⟩
 rw [runF_snoc]
 simp only [Int.toNat_natCast]
 rfl
theorem refF_at {ts : List DeedD} {ar : Bool} {rooms : List Int} : ∀ (m : Nat) (ds : List DeedD) (last : Int) (F : List (Nat × List UInt8)),F = refF ts ar m (runF rooms ds).1 last -> ∀ (k : Nat) (p : Nat × List UInt8),F[k]? = some p ->
  (p.1 : Int) = nextF (readyUpto ts.length (runF rooms (ds ++ (F.take k).map (entD ts))).1 ts) (lastF ar last (F.take k)) /\
   p.2 = (doneF ((runF rooms (ds ++ (F.take k).map (entD ts))).1.getD (entD ts p).a.toNat l00) (entD ts p)).2:=by
 intro m
 induction m with
 | zero => intro ds last F hF k p hp; subst hF; simp [refF] at hp
 | succ m ih =>
  intro ds last F hF k p hp
  by_cases h : nextF (readyUpto ts.length (runF rooms ds).1 ts) last < 0
  ·rw [refF,if_pos h] at hF; subst hF; simp at hp
  ·obtain ⟨p0,h1,h2,h3⟩:=refF_cons (ar:=ar) (m:=m) h
   rw [h3] at hF
   subst hF
   cases k with
   | zero =>
    simp only [List.getElem?_cons_zero,Option.some.injEq] at hp
    subst hp
    simp only [List.take_zero,List.map_nil,List.append_nil,lastF_nil]
    exact ⟨h1,h2⟩
   | succ k =>
    rw [List.getElem?_cons_succ] at hp
    have:=ih (ds ++ [entD ts p0]) _ _ rfl k p hp
    rw [List.take_succ_cons,List.map_cons,lastF_cons,show ds ++ entD ts p0 :: List.map (entD ts) ((refF ts ar m (runF rooms (ds ++ [entD ts p0])).1 (if ar = true then (p0.1 : Int) else last)).take k) = ds ++ [entD ts p0] ++ List.map (entD ts) ((refF ts ar m (runF rooms (ds ++ [entD ts p0])).1 (if ar = true then (p0.1 : Int) else last)).take k) by simp]
    exact this
theorem refF_end {ts : List DeedD} {ar : Bool} {rooms : List Int} : ∀ (m : Nat) (ds : List DeedD) (last : Int) (F : List (Nat × List UInt8)),F = refF ts ar m (runF rooms ds).1 last -> F.length < m ->
  nextF (readyUpto ts.length (runF rooms (ds ++ F.map (entD ts))).1 ts) (lastF ar last F) < 0:=by
 intro m
 induction m with
 | zero => intro ds last F hF h; omega
 | succ m ih =>
  intro ds last F hF hl
  by_cases h : nextF (readyUpto ts.length (runF rooms ds).1 ts) last < 0
  ·rw [refF,if_pos h] at hF; subst hF
   simpa [lastF_nil] using h
  ·obtain ⟨p0,h1,h2,h3⟩:=refF_cons (ar:=ar) (m:=m) h
   rw [h3] at hF
   subst hF
   simp only [List.length_cons] at hl
   have:=ih (ds ++ [entD ts p0]) (if ar = true then (p0.1 : Int) else last) _ rfl (by omega)
   rw [List.map_cons,lastF_cons,show ds ++ entD ts p0 :: List.map (entD ts) (refF ts ar m (runF rooms (ds ++ [entD ts p0])).1 (if ar = true then (p0.1 : Int) else last)) = ds ++ [entD ts p0] ++ List.map (entD ts) (refF ts ar m (runF rooms (ds ++ [entD ts p0])).1 (if ar = true then (p0.1 : Int) else last)) by simp]
   exact this
theorem nextF_mem {r : List Int} {last : Int} (h : 0 <= nextF r last) : nextF r last ∈ r:=by
 unfold nextF at h ⊢
 cases hf : r.find? (λ x => decide (last < x)) with
 | some x => exact List.mem_of_find?_eq_some hf
 | none =>
  rw [hf] at h
  simp only [Option.getD_none] at h ⊢
  cases r with
  | nil => simp at h
  | cons a r => simp
theorem nextF_neg {r : List Int} {last : Int} (hp : ∀ x ∈ r,0 <= x) (h : nextF r last < 0) : nextF r last = -1:=by
 unfold nextF at h ⊢
 cases hf : r.find? (λ x => decide (last < x)) with
 | some x =>
  rw [hf] at h
  have:=hp x (List.mem_of_find?_eq_some hf)
  simp at h; omega
 | none =>
  rw [hf] at h
  simp only [Option.getD_none] at h ⊢
  cases r with
  | nil => rfl
  | cons a r =>
   have:=hp a (by simp)
   simp at h; omega
theorem upto_mem {n : Nat} {ls : List Ln} {ts : List DeedD} {x : Int} (h : x ∈ readyUpto n ls ts) : ∃ i : Nat,x = i /\ i < n /\ rdyAt ls ts i = true:=by
 rw [upto_eq] at h
 obtain ⟨i,hi,rfl⟩:=List.mem_map.1 h
 obtain ⟨h1,h2⟩:=List.mem_filter.1 hi
 exact ⟨i,rfl,List.mem_range.1 h1,h2⟩
theorem upto_pos {n : Nat} {ls : List Ln} {ts : List DeedD} : ∀ x ∈ readyUpto n ls ts,0 <= x:=λ x h => by
 obtain ⟨i,rfl,_⟩:=upto_mem h
 omega
theorem table_of {ts : List DeedD} {lines : Int} (h : tableB ts lines = true) : (∀ d ∈ ts,deedB lines d = true /\ (d.act.toList == putA || d.act.toList == takeA) = true) /\ 1 <= ts.length /\ ts.length <= 8:=by
 unfold tableB at h
 simp only [Bool.and_eq_true,List.all_eq_true] at h
 obtain ⟨⟨h1,h2⟩,h3⟩:=h
 refine ⟨λ d hd => ?_,?_⟩
 ·have:=h1 d hd
  unfold entB at this
  simp only [Bool.and_eq_true] at this
  exact ⟨this.1.2,this.2⟩
 ·simp [inB] at h3; omega
structure SrvPl (rooms : List Int) (ds ts : List DeedD) (ar : Bool) (m : Nat) (F : List (Nat × List UInt8)) : Prop where
 ok : deedsB rooms ds = true
 tab : tableB ts rooms.length = true
 len : F.length <= m
 ent : ∀ (k : Nat) (p : Nat × List UInt8),F[k]? = some p -> p.1 < ts.length
 ready : ∀ (k : Nat) (p : Nat × List UInt8),F[k]? = some p -> (p.1 : Int) = nextF (readyUpto ts.length (runF rooms (ds ++ (F.take k).map (entD ts))).1 ts) (lastF ar (-1) (F.take k))
 ans : ∀ (k : Nat) (p : Nat × List UInt8),F[k]? = some p -> (runF rooms (ds ++ (F.take (k + 1)).map (entD ts))).2[ds.length + k]? = some p.2
 fin : F.length < m -> nextF (readyUpto ts.length (runF rooms (ds ++ F.map (entD ts))).1 ts) (lastF ar (-1) F) = -1
theorem srvPl {rooms : List Int} {ds ts : List DeedD} {ar : Bool} {tn : Int} (h : okS rooms ds ts tn = true) : SrvPl rooms ds ts ar tn.toNat (serveF ts ar tn.toNat (runF rooms ds).1 0):=by
 unfold okS choiceB at h
 simp only [Bool.and_eq_true,decide_eq_true_eq] at h
 obtain ⟨⟨⟨h1,h2⟩,h3⟩,h4⟩:=h
 obtain ⟨ht,hl,_⟩:=table_of h2
 have hF : serveF ts ar tn.toNat (runF rooms ds).1 0 = refF ts ar tn.toNat (runF rooms ds).1 (-1):=serve_ref (λ d hd => (ht d hd).2) (by omega) _ _ _ 0 (-1) (LsS.refl _) (Nat.zero_le _) rfl
 have hlen:=serveF_len (ts:=ts) (around:=ar) tn.toNat (runF rooms ds).1 0
 generalize serveF ts ar tn.toNat (runF rooms ds).1 0 = F at hF hlen
 have hat:=refF_at _ _ _ F hF
 refine ⟨h1,h2,hlen,λ k p hp => ?_,λ k p hp => (hat k p hp).1,λ k p hp => ?_,λ hm => ?_⟩
 ·have e:=(hat k p hp).1
  obtain ⟨i,hi,hlt,_⟩:=upto_mem (nextF_mem (show 0 <= nextF (readyUpto ts.length (runF rooms (ds ++ (F.take k).map (entD ts))).1 ts) (lastF ar (-1) (F.take k)) by omega))
  omega
 ·obtain ⟨hk,e⟩:=List.getElem?_eq_some_iff.1 hp
  rw [List.take_succ_eq_append_getElem hk,e,List.map_append,<- List.append_assoc]
  show (runF rooms (ds ++ (F.take k).map (entD ts) ++ [entD ts p])).2[ds.length + k]? = some p.2
  rw [runF_snoc,(hat k p hp).2]
  have hl2:=(runF_len rooms (ds ++ (F.take k).map (entD ts))).2
  have hl3 : (ds ++ (F.take k).map (entD ts)).length = ds.length + k:=by simp; omega
  unfold stepF
  simp only
  rw [List.getElem?_append_right (by omega),hl2,hl3]
  simp
  rfl
 ·exact nextF_neg upto_pos (refF_end _ _ _ F hF hm)
theorem SrvPl.deeds {rooms : List Int} {ds ts : List DeedD} {ar : Bool} {m : Nat} {F : List (Nat × List UInt8)} (h : SrvPl rooms ds ts ar m F) {k : Nat} (hk : ds.length + k <= 60) : deedsB rooms (ds ++ (F.take k).map (entD ts)) = true:=by
 have h1:=h.ok
 obtain ⟨ht,_,_⟩:=table_of h.tab
 unfold deedsB at h1 ⊢
 simp only [Bool.and_eq_true,decide_eq_true_eq,List.all_eq_true] at h1 ⊢
 refine ⟨⟨h1.1.1,?_⟩,λ d hd => ?_⟩
 ·simp; omega
 ·rcases List.mem_append.1 hd with hd | hd
  ·exact h1.2 d hd
  ·obtain ⟨p,hp,rfl⟩:=List.mem_map.1 hd
   obtain ⟨j,hj⟩:=List.getElem?_of_mem (List.mem_of_mem_take hp)
   have hlt:=h.ent j p hj
   refine (ht _ ?_).1
   unfold entD
   rw [List.getD_eq_getElem?_getD,List.getElem?_eq_getElem hlt]
   exact List.getElem_mem hlt
theorem SrvPl.readyE {rooms : List Int} {ds ts : List DeedD} {ar : Bool} {m : Nat} {F : List (Nat × List UInt8)} (h : SrvPl rooms ds ts ar m F) {k : Nat} (hk : ds.length + k <= 60) : readyEF rooms (ds ++ (F.take k).map (entD ts)) ts = (readyUpto ts.length (runF rooms (ds ++ (F.take k).map (entD ts))).1 ts,true):=by
 unfold readyEF
 rw [if_pos]
 unfold choiceB
 rw [h.deeds hk,h.tab]; rfl
end Go.Proofs.YtkfafknliihabaaDoor
namespace Go.Proofs.YtkfafknliihabaaDoor
def distF (n L i : Nat) : Nat:=if L <= i then i - L else i + n - L
theorem distF_lt {n L i : Nat} (hL : L <= n) (hi : i < n) : distF n L i < n:=by
 unfold distF
 split <;> omega
theorem least_true {p : Nat -> Bool} : ∀ (m : Nat),p m = true -> ∃ j,j <= m /\ p j = true /\ ∀ i,i < j -> p i = false:=by
 intro m
 induction m using Nat.strongRecOn with
 | _ m ih =>
  intro h
  by_cases hx : ∃ i,i < m /\ p i = true
  ·obtain ⟨i,hi,hp⟩:=hx
   obtain ⟨j,h1,h2,h3⟩:=ih i hi hp
   exact ⟨j,by omega,h2,h3⟩
  ·refine ⟨m,Nat.le_refl _,h,λ i hi => ?_⟩
   cases hp : p i with
   | false => rfl
   | true => exact absurd ⟨i,hi,hp⟩ hx
theorem wait_step {n st x i : Nat} {p : Nat -> Bool} {last : Int} (hst : st <= n) (hl : last + 1 = (st : Int)) (hx : nextF (((List.range n).filter p).map λ i : Nat => (i : Int)) last = (x : Int)) (hi : i < n) (hp : p i = true) (hne : i ≠ x) : distF n (x + 1) i + 1 <= distF n st i:=by
 have hd:=distF_lt (L:=st) hst hi
 have hmod : (st + distF n st i) % n = i:=by
  unfold distF
  split
  ·rw [show st + (i - st) = i by omega]; exact Nat.mod_eq_of_lt hi
  ·rw [show st + (i + n - st) = i + n by omega,Nat.add_mod_right]; exact Nat.mod_eq_of_lt hi
 obtain ⟨j,hj,hpj,hno⟩:=least_true (p:=λ j => p ((st + j) % n)) (distF n st i) (by simp only [hmod]; exact hp)
 have hn:=next_some (p:=p) hst hl (show j < n by omega) hno hpj
 rw [hx] at hn
 have hxj : x = (st + j) % n:=by omega
 have hjn : j ≠ distF n st i:=λ e => by subst e; exact hne (by rw [hxj]; exact hmod.symm)
 rcases Nat.lt_or_ge (st + j) n with h | h
 ·rw [Nat.mod_eq_of_lt h] at hxj
  unfold distF at hj hjn ⊢
  split at hj <;> split <;> omega
 ·rw [Nat.mod_eq_sub_mod h,Nat.mod_eq_of_lt (by omega)] at hxj
  unfold distF at hj hjn ⊢
  split at hj <;> split <;> omega
def waitF (r : Nat -> Bool) (x : Nat) (wt : Nat -> Nat) (i : Nat) : Nat:=if i = x then 0 else if r i then wt i + 1 else 0
def waitK (rooms : List Int) (ds ts : List DeedD) (F : List (Nat × List UInt8)) : Nat -> Nat -> Nat
 | 0 => λ _ => 0
 | k + 1 => waitF (rdyAt (runF rooms (ds ++ (F.take k).map (entD ts))).1 ts) (F.getD k (0,[])).1 (waitK rooms ds ts F k)
theorem lastF_take {F : List (Nat × List UInt8)} {k : Nat} {p : Nat × List UInt8} (hp : F[k]? = some p) : lastF true (-1) (F.take (k + 1)) = (p.1 : Int):=by
 obtain ⟨hk,e⟩:=List.getElem?_eq_some_iff.1 hp
 unfold lastF
 rw [List.take_succ_eq_append_getElem hk,List.getLast?_append,e]
 rfl
def lastN (F : List (Nat × List UInt8)) (k : Nat) : Nat:=(lastF true (-1) (F.take k) + 1).toNat
theorem SrvPl.lastN {rooms : List Int} {ds ts : List DeedD} {m : Nat} {F : List (Nat × List UInt8)} (h : SrvPl rooms ds ts true m F) {k : Nat} (hk : k <= F.length) : lastF true (-1) (F.take k) + 1 = (lastN F k : Int) /\ lastN F k <= ts.length:=by
 cases k with
 | zero => exact ⟨rfl,Nat.zero_le _⟩
 | succ k =>
  have hp : F[k]? = some F[k]:=List.getElem?_eq_getElem (by omega)
  have e:=lastF_take hp
  have:=h.ent k _ hp
  unfold Go.Proofs.YtkfafknliihabaaDoor.lastN
  rw [e]
  exact ⟨by omega,by omega⟩
theorem SrvPl.wait {rooms : List Int} {ds ts : List DeedD} {m : Nat} {F : List (Nat × List UInt8)} (h : SrvPl rooms ds ts true m F) : ∀ (k : Nat),k <= F.length -> ∀ i,i < ts.length -> waitK rooms ds ts F k i + distF ts.length (Go.Proofs.YtkfafknliihabaaDoor.lastN F k) i < ts.length:=by
 intro k
 induction k with
 | zero =>
  intro _ i hi
  have:=distF_lt (n:=ts.length) (L:=Go.Proofs.YtkfafknliihabaaDoor.lastN F 0) (Nat.zero_le _) hi
  show 0 + _ < _
  omega
 | succ k ih =>
  intro hk i hi
  have hp : F[k]? = some F[k]:=List.getElem?_eq_getElem (by omega)
  obtain ⟨e1,e2⟩:=h.lastN (k:=k) (by omega)
  obtain ⟨e3,e4⟩:=h.lastN (k:=k + 1) hk
  rw [lastF_take hp] at e3
  have hd:=distF_lt e4 hi
  have hx:=h.ready k _ hp
  rw [upto_eq] at hx
  have hih:=ih (by omega) i hi
  show waitF _ _ _ i + _ < _
  unfold waitF
  have hg : (F.getD k (0,[])).1 = F[k].1:=by rw [List.getD_eq_getElem?_getD,hp]; rfl
  rw [hg]
  by_cases hix : i = F[k].1
  ·rw [if_pos hix]; omega
  ·rw [if_neg hix]
   cases hr : rdyAt (runF rooms (ds ++ (F.take k).map (entD ts))).1 ts i with
   | false => simp; omega
   | true =>
    have:=wait_step (p:=rdyAt (runF rooms (ds ++ (F.take k).map (entD ts))).1 ts) e2 e1 hx.symm hi hr hix
    have e5 : Go.Proofs.YtkfafknliihabaaDoor.lastN F (k + 1) = F[k].1 + 1:=by omega
    rw [e5]
    simp only [if_true]
    omega
theorem SrvPl.next {rooms : List Int} {ds ts : List DeedD} {m : Nat} {F : List (Nat × List UInt8)} (h : SrvPl rooms ds ts true m F) {k : Nat} (hk : ds.length + k <= 60) {p : Nat × List UInt8} (hp : F[k]? = some p) : nextRF rooms (ds ++ (F.take k).map (entD ts)) ts (lastF true (-1) (F.take k)) = p.1:=by
 obtain ⟨hk',_⟩:=List.getElem?_eq_some_iff.1 hp
 obtain ⟨e1,e2⟩:=h.lastN (k:=k) (by omega)
 unfold nextRF
 rw [h.readyE hk,if_pos]
 ·exact (h.ready k p hp).symm
 ·simp [inB]; omega
theorem SrvPl.nextEnd {rooms : List Int} {ds ts : List DeedD} {m : Nat} {F : List (Nat × List UInt8)} (h : SrvPl rooms ds ts true m F) (hk : ds.length + F.length <= 60) (hm : F.length < m) : nextRF rooms (ds ++ (F.take F.length).map (entD ts)) ts (lastF true (-1) (F.take F.length)) = -1:=by
 obtain ⟨e1,e2⟩:=h.lastN (k:=F.length) (Nat.le_refl _)
 unfold nextRF
 rw [h.readyE hk,if_pos]
 ·rw [List.take_length]; exact h.fin hm
 ·rw [List.take_length] at e1 ⊢
  simp [inB]; omega
theorem upto_split (ls : List Ln) (ts : List DeedD) (j : Nat) : ∀ m,∃ T,readyUpto (j + 1 + m) ls ts = readyUpto j ls ts ++ ((if rdyAt ls ts j then [(j : Int)] else []) ++ T) /\ ∀ x ∈ T,(j : Int) < x:=by
 intro m
 induction m with
 | zero =>
  refine ⟨[],?_,λ x hx => by cases hx⟩
  rw [upto_eq,upto_eq,Nat.add_zero,List.range_succ,List.filter_append,List.map_append,List.append_nil]
  congr 1
  cases h : rdyAt ls ts j <;> simp [h]
 | succ m ih =>
  obtain ⟨T,hT,hx⟩:=ih
  refine ⟨T ++ (if rdyAt ls ts (j + 1 + m) then [((j + 1 + m : Nat) : Int)] else []),?_,λ x h => ?_⟩
  ·rw [upto_eq] at hT ⊢
   rw [show j + 1 + (m + 1) = (j + 1 + m) + 1 by omega,List.range_succ,List.filter_append,List.map_append,hT]
   simp only [List.append_assoc]
   congr 3
   cases h : rdyAt ls ts (j + 1 + m) <;> simp [h]
  ·rcases List.mem_append.1 h with h | h
   ·exact hx x h
   ·split at h
    ·simp at h; omega
    ·cases h
theorem upto_at (ls : List Ln) (ts : List DeedD) {j n : Nat} (hj : j < n) :
  (rdyAt ls ts j = true -> (readyUpto n ls ts)[(readyUpto j ls ts).length]? = some (j : Int)) /\
  (rdyAt ls ts j = false -> (readyUpto n ls ts)[(readyUpto j ls ts).length]? = none \/ ∃ x,(readyUpto n ls ts)[(readyUpto j ls ts).length]? = some x /\ (j : Int) < x):=by
 obtain ⟨T,hT,hx⟩:=upto_split ls ts j (n - j - 1)
 rw [show j + 1 + (n - j - 1) = n by omega] at hT
 rw [hT]
 refine ⟨λ h => ?_,λ h => ?_⟩
 ·rw [List.getElem?_append_right (Nat.le_refl _),Nat.sub_self,h]; rfl
 ·rw [List.getElem?_append_right (Nat.le_refl _),Nat.sub_self,h]
  cases T with
  | nil => exact .inl rfl
  | cons x T => exact .inr ⟨x,rfl,hx x (by simp)⟩
theorem upto_len_succ (ls : List Ln) (ts : List DeedD) (j : Nat) : (readyUpto (j + 1) ls ts).length = (readyUpto j ls ts).length + if rdyAt ls ts j then 1 else 0:=by
 obtain ⟨T,hT,_⟩:=upto_split ls ts j 0
 rw [upto_eq,upto_eq,List.range_succ,List.filter_append,List.map_append,List.length_append]
 congr 1
 cases h : rdyAt ls ts j <;> simp [h]
end Go.Proofs.YtkfafknliihabaaDoor
namespace Go.Proofs.YtkfafknliihabaaDoor
open Go.RowKit
theorem hb2 {W0 W : World} {a1 a2 : Addr} {v1 v2 : Value} (h : W.cell? a1 = some v1 /\ W.cell? a2 = some v2 /\ Below W0.heap.size W0 W) : Below W0.heap.size W0 W:=h.2.2
section
variable {P : Program} (w : World)
theorem run_apps (t ty : TypeId) (base : Nat) (e : TypeId) (i : TypeInfo) (z : Value) (size bytes : Nat) (ht : P.underlying t = some (.slice e)) (hi : P.info? e = some i) (hz : i.zero = some z)
  (hsize : i.size = size) (hby : i.bytes = bytes) (hzs : z.cells.size = size) (hsz : 0 < size)
  (g0 n c0 : Nat) (xs : List Value) (hown : w.ownsRow base e size (.slice (some ⟨g0,0,none⟩) n c0) n xs)
  (A : Option Addr) (m c lo hi' : Nat) (news : List Value) (hs : Slc w lo hi' size A m c news) (h1 : ∀ u ∈ news,u.oneCell' = true)
  (h63 : n + m <= maxLen) (hbytes : (n + m) * bytes <= 140737488355328) (hbase : base <= w.heap.size) :
  ∃ g cap w',(Builtin.append_ #[t,t] ty #[.slice (some ⟨g0,0,none⟩) n c0,.slice A m c]).run P w = .ok (.slice (some ⟨g,0,none⟩) (n + m) cap) w' /\
   w'.ownsRow base e size (.slice (some ⟨g,0,none⟩) (n + m) cap) (n + m) (xs ++ news) /\ w.grownBy w' (Value.ownBlock (.slice (some ⟨g0,0,none⟩) n c0)) /\ Below base w w':=by
 cases A with
 | none =>
  have hm : m = 0:=by
   rcases Nat.eq_zero_or_pos m with h | h
   ·exact h
   ·obtain ⟨b,off,e,_⟩:=hs.at_ h; cases e
  subst hm
  have hnl : news = []:=by have:=hs.len; simp at this; exact this
  subst hnl
  have hle : n <= c0:=by
   obtain ⟨_,h | ⟨b,cap,cur,e,h1,h2,h3,_⟩⟩:=hown
   ·cases h.1
   ·injection e with _ _ e; omega
  have hr:=run_append_room_src (P:=P) w t t ty e i ht hi g0 0 n c0 (.slice none 0 c) 0 [] (Src.ofNil (P:=P) (e':=e) w ht c) (by omega) (by intro j hj; simp at hj) (by intro j hj; simp at hj)
  refine ⟨g0,c0,w,by simpa [World.setCells] using hr,by simpa using hown,⟨rfl,rfl,rfl,Nat.le_refl _,λ _ _ _ => rfl⟩,Below.refl _ _⟩
 | some ad =>
  by_cases hm : 0 < m
  ·obtain ⟨b,off,e',_,_,_,h4⟩:=hs.at_ hm
   injection e' with e'
   subst e'
   exact run_app w t ty base e i z size bytes ht hi hz hsize hby hzs hsz _ n xs hown (by simp) _ m c news hs.len (λ j u hu => by rw [Addr.add_lit]; exact h4 j u hu) h1 h63 hbytes hbase
  ·obtain rfl : m = 0:=by omega
   have hnl : news = []:=by have:=hs.len; simp at this; exact this
   subst hnl
   exact run_app w t ty base e i z size bytes ht hi hz hsize hby hzs hsz _ n xs hown (by simp) _ 0 c [] (by simp) (λ j u hu => by simp at hu) (λ u hu => by cases hu) h63 hbytes hbase
theorem wp_apps {o : Oper} {a : Act} {K : Act -> World -> Prop} {Q : Exit -> Act -> World -> Prop} (s x : Operand) (t : TypeId)
  (ho : o.op = .call { callee:=.builtin .append,args:=#[s,x],argTypes:=#[t,t] })
  (base : Nat) (e : TypeId) (i : TypeInfo) (z : Value) (size bytes : Nat) (ht : P.underlying t = some (.slice e)) (hi : P.info? e = some i) (hz : i.zero = some z)
  (hsize : i.size = size) (hby : i.bytes = bytes) (hzs : z.cells.size = size) (hsz : 0 < size)
  (g0 n c0 : Nat) (xs : List Value) (hsv : a.eval s = .slice (some ⟨g0,0,none⟩) n c0) (hown : w.ownsRow base e size (.slice (some ⟨g0,0,none⟩) n c0) n xs)
  (A : Option Addr) (m c lo hi' : Nat) (news : List Value) (hx : a.eval x = .slice A m c) (hs : Slc w lo hi' size A m c news) (h1 : ∀ u ∈ news,u.oneCell' = true)
  (h63 : n + m <= maxLen) (hbytes : (n + m) * bytes <= 140737488355328) (hbase : base <= w.heap.size)
  (h : ∀ g cap w',w'.ownsRow base e size (.slice (some ⟨g,0,none⟩) (n + m) cap) (n + m) (xs ++ news) -> w.grownBy w' (Value.ownBlock (.slice (some ⟨g0,0,none⟩) n c0)) -> Below base w w' -> K (a.put o.dst (.slice (some ⟨g,0,none⟩) (n + m) cap)) w') : o.wp P a w K Q:=by
 obtain ⟨g,cap,w',hr,h2,h3,h4⟩:=run_apps (P:=P) w t o.type base e i z size bytes ht hi hz hsize hby hzs hsz g0 n c0 xs hown A m c lo hi' news hs h1 h63 hbytes hbase
 unfold Oper.wp execOp
 simp only [ho,resolve,invoke,builtin,Sem.run_bind,Sem.run_pure,Result.andThen_ok,List.map_toArray,List.map_cons,List.map_nil,hsv,hx,hr]
 exact h g cap w' h2 h3 h4
theorem wpList_apps {ops : Array Oper} {rest : List Oper} {o : Oper} {a : Act} {Q : Exit -> Act -> World -> Prop} (hgd : o.guard = none) (s x : Operand) (t : TypeId)
  (ho : o.op = .call { callee:=.builtin .append,args:=#[s,x],argTypes:=#[t,t] })
  (base : Nat) (e : TypeId) (i : TypeInfo) (z : Value) (size bytes : Nat) (ht : P.underlying t = some (.slice e)) (hi : P.info? e = some i) (hz : i.zero = some z)
  (hsize : i.size = size) (hby : i.bytes = bytes) (hzs : z.cells.size = size) (hsz : 0 < size)
  (g0 n c0 : Nat) (xs : List Value) (hsv : a.eval s = .slice (some ⟨g0,0,none⟩) n c0) (hown : w.ownsRow base e size (.slice (some ⟨g0,0,none⟩) n c0) n xs)
  (A : Option Addr) (m c lo hi' : Nat) (news : List Value) (hx : a.eval x = .slice A m c) (hs : Slc w lo hi' size A m c news) (h1 : ∀ u ∈ news,u.oneCell' = true)
  (h63 : n + m <= maxLen) (hbytes : (n + m) * bytes <= 140737488355328) (hbase : base <= w.heap.size)
  (h : ∀ g cap w',w'.ownsRow base e size (.slice (some ⟨g,0,none⟩) (n + m) cap) (n + m) (xs ++ news) -> w.grownBy w' (Value.ownBlock (.slice (some ⟨g0,0,none⟩) n c0)) -> Below base w w' -> wpList P ops Q rest (a.put o.dst (.slice (some ⟨g,0,none⟩) (n + m) cap)) w') : wpList P ops Q (o :: rest) a w:=
 wpList_plain hgd λ _ hK => wp_apps w s x t ho base e i z size bytes ht hi hz hsize hby hzs hsz g0 n c0 xs hsv hown A m c lo hi' news hx hs h1 h63 hbytes hbase λ g cap w' h2 h3 h4 => hK _ _ (h g cap w' h2 h3 h4)
end
end Go.Proofs.YtkfafknliihabaaDoor
namespace Go.Proofs.YtkfafknliihabaaDoor
open Go.RowKit
structure DSt (w0 : World) (g : Nat) (A : Option Addr) (n c q : Nat) (E s : Nat) (v : Value) (k : Nat) (xs : List Value) (W : World) : Prop where
 rd : Rd W g A n c q
 own : W.ownsRow w0.heap.size E s v k xs
 gr : w0.grownBy W (some g)
 hg : g < w0.heap.size
section
variable {w0 : World} {g : Nat} {A : Option Addr} {n c q : Nat} {E s : Nat} {v : Value} {k : Nat} {xs : List Value} {W W' : World}
theorem DSt.hb (h : DSt w0 g A n c q E s v k xs W) : w0.heap.size <= W.heap.size:=h.gr.size
theorem DSt.notg (h : DSt w0 g A n c q E s v k xs W) : v.ownBlock ≠ some g:=λ e => by
 have:=(h.own.lt g e).1; have:=h.hg; omega
theorem DSt.alloc (h : DSt w0 g A n c q E s v k xs W) (o : Obj) : DSt w0 g A n c q E s v k xs (W.alloc o):=
 ⟨h.rd.alloc o,h.own.alloc o,gb_al h.gr o,h.hg⟩
theorem DSt.grown {q' : Nat} (h : DSt w0 g A n c q E s v k xs W) (hr : Rd W' g A n c q') (hg : W.grownBy W' (some g)) : DSt w0 g A n c q' E s v k xs W':=
 ⟨hr,h.own.kept hg (.inr h.notg),gb_trans h.gr hg,h.hg⟩
theorem DSt.below (h : DSt w0 g A n c q E s v k xs W) (hb : Below W.heap.size W W') : DSt w0 g A n c q E s v k xs W':=
 ⟨h.rd.below hb,h.own.kept (row:=none) ⟨hb.os,hb.tape,hb.output,hb.size,λ i hi _ => hb.block i hi⟩ (by cases hv : v.ownBlock <;> simp),gb_trans h.gr (gb_below hb _),h.hg⟩
theorem DSt.wide {q' : Nat} (h : DSt w0 g A n c q E s v k xs W) (hq : q <= q') : DSt w0 g A n c q' E s v k xs W:=
 ⟨h.rd.mono hq,h.own,h.gr,h.hg⟩
theorem DSt.aside {row : Option Nat} (h : DSt w0 g A n c q E s v k xs W) (hg : W.grownBy W' row) (hne : v.ownBlock = none \/ v.ownBlock ≠ row) (hy : ∀ b,row = some b -> w0.heap.size <= b) : DSt w0 g A n c q E s v k xs W':=
 ⟨h.rd.keep λ b hb => hg.block b (Nat.lt_of_le_of_lt hb h.rd.gblt) (λ e => by have:=hy b e.symm; have:=h.hg; omega),h.own.kept hg hne,
  ⟨hg.os.trans h.gr.os,hg.tape.trans h.gr.tape,hg.output.trans h.gr.output,Nat.le_trans h.gr.size hg.size,λ i hi hne => (hg.block i (Nat.lt_of_lt_of_le hi h.gr.size) (λ e => by have:=hy i e.symm; omega)).trans (h.gr.block i hi hne)⟩,h.hg⟩
theorem DSt.app {v' : Value} {k' : Nat} {xs' : List Value} (h : DSt w0 g A n c q E s v k xs W) (ho : W'.ownsRow w0.heap.size E s v' k' xs') (hg : W.grownBy W' v.ownBlock) : DSt w0 g A n c q E s v' k' xs' W':=
 ⟨h.rd.keep λ b hb => hg.block b (Nat.lt_of_le_of_lt hb h.rd.gblt) (λ e => by have:=(h.own.lt b e.symm).1; have:=h.hg; omega),ho,
  ⟨hg.os.trans h.gr.os,hg.tape.trans h.gr.tape,hg.output.trans h.gr.output,Nat.le_trans h.gr.size hg.size,λ i hi hne => (hg.block i (Nat.lt_of_lt_of_le hi h.gr.size) (λ e => by have:=(h.own.lt i e.symm).1; omega)).trans (h.gr.block i hi hne)⟩,h.hg⟩
theorem DSt.fresh {v' : Value} {k' : Nat} {xs' : List Value} {E' s' : Nat} (h : DSt w0 g A n c q E s v k xs W) (ho : W.ownsRow w0.heap.size E' s' v' k' xs') : DSt w0 g A n c q E' s' v' k' xs' W:=
 ⟨h.rd,ho,h.gr,h.hg⟩
end
theorem DSt.init {W : World} {g : Nat} {A : Option Addr} {n c q : Nat} (E s : Nat) (h : Rd W g A n c q) :
  DSt W g A n c q E s (.slice (some ⟨W.heap.size,0,none⟩) 0 0) 0 [] (W.alloc (.cells #[] E)):=
 ⟨h.alloc _,World.ownsRow_made W #[] 0 (Nat.le_refl _) (Nat.zero_le _) (by simp),gb_al (World.grownBy.refl _ _) _,h.gblt⟩
theorem int_pred {j : Nat} (h : 0 < j) : Value.int .i64 ((j : Int) - 1) = .int .i64 ((j - 1 : Nat) : Int):=by congr 1; omega
theorem num_lits {w : World} {l : Nat} {xs : List Int} {T : TypeId} {fz : Nat × Nat} (h : w.heap[l]? = some (.cells (xs.map (Value.int .i64)).toArray T fz)) {k : Nat} (hk : xs.length = k) :
  ∀ j,j < k -> ∃ v : Int,w.cell? ⟨l,0 + j,none⟩ = some (.int .i64 v):=
 cells_of_blk h k λ j hj => ⟨xs[j]'(by omega),by simp [hk,hj]⟩
end Go.Proofs.YtkfafknliihabaaDoor
namespace Go.Proofs.YtkfafknliihabaaDoor
open Go.RowKit
structure OwnC (E s : Nat) (w : World) (lo hi : Nat) (A : Option Addr) (n c : Nat) (xs : List Value) : Prop where
 own : OwnV E s w lo hi A n c xs
 blk0 : ∀ a,A = some a -> a.spot = none /\ lo <= a.block /\ a.block < hi /\ ∃ cs T fz,w.heap[a.block]? = some (.cells cs T fz)
section
variable {E s : Nat} {w w' : World} {lo hi n c : Nat} {A : Option Addr} {xs : List Value}
theorem OwnC.slc (h : OwnC E s w lo hi A n c xs) : Slc w lo hi s A n c xs:=h.own.slc
theorem OwnC.keep (h : OwnC E s w lo hi A n c xs) (hs : w.heap.size <= w'.heap.size) (k : ∀ b,lo <= b -> b < hi -> b < w.heap.size -> w'.heap[b]? = w.heap[b]?) : OwnC E s w' lo hi A n c xs:=
 ⟨h.own.keep hs k,λ a e => by
  obtain ⟨h0,h1,h2,cs,T,fz,h3⟩:=h.blk0 a e
  exact ⟨h0,h1,h2,cs,T,fz,(k _ h1 h2 (blk_lt h3)).trans h3⟩⟩
theorem OwnC.gb {g : Nat} (h : OwnC E s w lo hi A n c xs) (hg : w.grownBy w' (some g)) (hlo : g < lo) : OwnC E s w' lo hi A n c xs:=
 h.keep hg.size λ b h1 _ h3 => hg.block b h3 (by simp; omega)
theorem OwnC.wide {lo' hi' : Nat} (h : OwnC E s w lo hi A n c xs) (h1 : lo' <= lo) (h2 : hi <= hi') : OwnC E s w lo' hi' A n c xs:=
 ⟨h.own.wide h1 h2,λ a e => by
  obtain ⟨h0,q1,q2,r⟩:=h.blk0 a e
  exact ⟨h0,by omega,by omega,r⟩⟩
theorem OwnC.from {lo' : Nat} (h : OwnC E s w lo hi A n c xs) (h1 : lo' <= lo) : OwnC E s w lo' hi A n c xs:=h.wide h1 (Nat.le_refl _)
theorem ownC_of_row {base : Nat} {v : Value} (h : w.ownsRow base E s v n xs) (hs : 0 < s) : ∃ A c,v = .slice A n c /\ OwnC E s w base w.heap.size A n c xs:=by
 obtain ⟨A,c,rfl,ho⟩:=ownV_of_row h hs
 refine ⟨A,c,rfl,ho,λ a e => ?_⟩
 subst e
 obtain ⟨hl,h | ⟨g,cap,cur,hv,hb,hg,hn,hc,hsz,ht⟩⟩:=h
 ·cases h.1
 ·cases hv
  exact ⟨rfl,hb,blk_lt hg,cur,E,(0,0),hg⟩
end
def GotS (w : World) (g : Nat) (A : Option Addr) (n c q : Nat) (e : Ending) (w' : World) : Prop:=
 ∃ s : ByteArray,e = .returned (.string s) /\ Rd w' g A n c q /\ w.grownBy w' (some g)
set_option maxHeartbeats 2000000 in
theorem of_any (g q n c l lo k kc : Nat) (A : Option Addr) (w : World) (h : Rd w g A n c q) (hq : q + 1 < 1000000000) (hk : 0 < k) (hk2 : k <= 1000000) (hl : l < w.heap.size) (hlg : l ≠ g)
  (hc : ∀ j,j < k -> ∃ v : ByteArray,w.cell? ⟨l,lo + j,none⟩ = some (.string v)) :
  Calls Tryd.prog 99 #[.pointer (some ⟨g,0,none⟩),.slice (some ⟨l,lo,none⟩) k kc] w (GotS w g A n c (q + 1)):=by
 have H:=Lib.hid hc
 clear hc
 go_enter Tryd.func99, Tryd.ntmps99
 go_wp2_with fail
 refine (pick_any g q n c A _ _ h hq (by omega) (by omega)).mono ?_
 rintro e w1 ⟨r,rfl,⟨r0,r1⟩,hr,hg⟩
 obtain ⟨v,hv⟩:=H.out r.toNat (by omega)
 have hv1:=(gb_cell hg hl hlg).trans hv
 clear hv
 go_wp2
 go_ret
 exact ⟨v,rfl,hr,hg⟩
theorem of_lits {w : World} {l : Nat} {xs : List ByteArray} {T : TypeId} {fz : Nat × Nat} (h : w.heap[l]? = some (.cells (xs.map Value.string).toArray T fz)) {k : Nat} (hk : xs.length = k) :
  ∀ j,j < k -> ∃ v : ByteArray,w.cell? ⟨l,0 + j,none⟩ = some (.string v):=λ j hj => ⟨xs[j]'(by omega),by rw [Nat.zero_add,blk_cell h]; simp [hk,hj]⟩
def GotInts (w : World) (g : Nat) (A : Option Addr) (n c q : Nat) (e : Ending) (w' : World) : Prop:=
 ∃ (A' : Option Addr) (n' c' : Nat) (xs : List Int),e = .returned (.slice A' n' c') /\ OwnC 3 1 w' w.heap.size w'.heap.size A' n' c' (ints xs) /\ n' <= 10 /\ Rd w' g A n c q /\ w.grownBy w' (some g)
theorem gotInts_of {w : World} {g : Nat} {A : Option Addr} {n c q q' k : Nat} {v : Value} {xs : List Int} {W : World} (h : DSt w g A n c q 3 1 v k (ints xs) W) (hk : k <= 10) (hq : q <= q') : GotInts w g A n c q' (.returned v) W:=by
 obtain ⟨A1,c1,rfl,ho⟩:=ownC_of_row h.own (by decide)
 exact ⟨A1,k,c1,xs,rfl,ho,hk,h.rd.mono hq,h.gr⟩
set_option maxHeartbeats 4000000 in
set_option maxRecDepth 20000 in
theorem l1Rooms_any (g q n c : Nat) (A : Option Addr) (w : World) (h : Rd w g A n c q) (hq : q < 900000000) :
  Calls Tryd.prog 67 #[.pointer (some ⟨g,0,none⟩)] w (GotInts w g A n c (q + 20)):=by
 obtain ⟨i0,hi,hz0,hz1,hz2⟩:=info_parts info_int
 have HI:=Lib.hid (And.intro hi (And.intro hz0 (And.intro hz1 hz2)))
 clear hi hz0 hz1 hz2
 have D1:=DSt.init 3 1 h
 have gb:=D1.hg
 clear h
 go_enter Tryd.func67, Tryd.ntmps67
 go_wp2_with fail
 refine (pick_any g _ n c A _ _ D1.rd (by omega) (by omega) (by omega)).mono ?_
 rintro e w2 ⟨r,rfl,⟨r0,r5⟩,hr,hg⟩
 have D2:=(D1.grown hr hg).wide (q':=q + 10 - 2 * (1 + r.toNat)) (by omega)
 clear D1 hr hg
 obtain ⟨R,rfl⟩:=Int.eq_ofNat_of_zero_le r0
 have HD2:=Lib.hid D2
 clear D2
 go_wp2
 go_loopw [3,4] (λ v i wr => ∃ (m k : Nat) (xs : List Int),i = .int .i64 m /\ m + k <= 3 /\ xs.length = k /\ DSt w g A n c (q + 10 - 2 * m) 3 1 v k (ints xs) wr) (λ _ i _ => (intOf i).toNat)
 case atStart => exact ⟨1 + R,0,[],by first | rfl | (congr 1; omega),by omega,rfl,HD2.out⟩
 case round =>
  obtain ⟨m,k,xs,rfl,hmk,hxk,D⟩:=hrel
  have HX:=Lib.hid hxk
  clear hxk
  by_cases hlt : 0 < m
  ·have z4:=D.hb
   go_wp2_with fail
   refine (num_any g _ n c _ 0 5 5 A _ (D.alloc _).rd (by omega) (by omega) (by omega) (by simp) (by omega) (num_lits (xs:=[1,2,0,3,8]) (heap_alloc_new _ _) rfl)).mono ?_
   rintro e w5 ⟨p3,rfl,_,hr,hg⟩
   have D5:=(D.alloc _).grown hr hg
   clear D hr hg
   have z5:=D5.hb
   have HD5:=Lib.hid D5
   obtain ⟨hi,hz0,hz1,hz2⟩:=HI.out
   have HH:=Lib.hid hi
   clear hi D5
   go_wp2_with (at_builtin; refine wpList_append_own_at _ rfl _ _ 23 rfl w.heap.size 3 i0 (.int .i64 0) 1 8 Tryd.underlying23 HH.out hz0 hz1 hz2 rfl (by decide) _ _ _ rfl ((HD5.out.alloc _).own) ⟨w5.heap.size,0,none⟩ 1 1 [.int .i64 p3] rfl rfl (cell_one_new _ _ _) (by simp [Value.oneCell']) (by unfold maxLen; omega) (by omega) (by simp; omega) ?_; intro v' w6 hown6 hgr _ _)
   have D6:=((HD5.out.alloc _).app hown6 hgr).wide (q':=q + 10 - 2 * (m - 1)) (by omega)
   have HD6:=Lib.hid D6
   clear D6 hown6 hgr hz0 hz1 hz2
   go_wp2
   go_roundw
   case rel => exact ⟨m - 1,k + 1,xs ++ [p3],int_pred hlt,by omega,by simp [HX.out],by simpa [ints] using HD6.out⟩
   case measure => simp [intOf]; omega
  ·have em : m = 0:=by omega
   subst em
   have HDD:=Lib.hid D
   clear D hlt
   go_wp2_with fail
   refine (pick_any g _ n c A _ _ HDD.out.rd (by omega) (by omega) (by omega)).mono ?_
   rintro e w3 ⟨p1,rfl,⟨p10,p11⟩,hr,hg⟩
   have D3:=HDD.out.grown hr hg
   clear hr hg
   have z3:=D3.hb
   obtain ⟨hi,hz0,hz1,hz2⟩:=HI.out
   have HH:=Lib.hid hi
   clear hi
   have HD3:=Lib.hid D3
   by_cases e0 : p1 = 0
   ·subst e0
    clear D3 p10 p11 hz0 hz1 hz2
    go_wp2
    go_ret
    exact gotInts_of (xs:=[]) ((HD3.out.alloc _).fresh (World.ownsRow_made w3 #[] 0 (by have:=HD3.out.hb; omega) (Nat.zero_le _) (by simp))) (by omega) (by omega)
   by_cases e1 : p1 = 1
   ·subst e1
    clear e0 p10 p11
    go_wp2_with fail
    refine (num_any g _ n c _ 0 3 3 A _ (D3.alloc _).rd (by omega) (by omega) (by omega) (by simp) (by omega) (num_lits (xs:=[9,-1,9223372036854775807]) (heap_alloc_new _ _) rfl)).mono ?_
    rintro e w5 ⟨p3,rfl,_,hr,hg⟩
    have D5:=(D3.alloc _).grown hr hg
    clear hr hg D3
    have z5:=D5.hb
    have HD5:=Lib.hid D5
    clear D5
    go_wp2_with (at_builtin; refine wpList_append_own_at _ rfl _ _ 23 rfl w.heap.size 3 i0 (.int .i64 0) 1 8 Tryd.underlying23 HH.out hz0 hz1 hz2 rfl (by decide) _ _ _ rfl ((HD5.out.alloc _).own) ⟨w5.heap.size,0,none⟩ 1 1 [.int .i64 p3] rfl rfl (cell_one_new _ _ _) (by simp [Value.oneCell']) (by unfold maxLen; omega) (by omega) (by simp; omega) ?_; intro v' w6 hown6 hgr _ _; have HO6:=Lib.hid (And.intro hown6 hgr); clear hown6 hgr)
    go_ret
    exact gotInts_of (xs:=xs ++ [p3]) ((HD5.out.alloc _).app (by simpa [ints] using HO6.out.1) HO6.out.2) (by omega) (by omega)
   by_cases e2 : p1 = 2
   ·subst e2
    clear e0 e1 p10 p11 D3
    go_wp2_with (at_builtin; go_loud (refine wpList_append_own_at _ rfl _ _ 23 rfl w.heap.size 3 i0 (.int .i64 0) 1 8 Tryd.underlying23 HH.out hz0 hz1 hz2 rfl (by decide) _ _ _ rfl ((HD3.out.alloc _).own) ⟨w3.heap.size,0,none⟩ 6 6 [.int .i64 1,.int .i64 1,.int .i64 1,.int .i64 1,.int .i64 1,.int .i64 1] rfl rfl (by exact World.news_of_block (cs:=#[.int .i64 1,.int .i64 1,.int .i64 1,.int .i64 1,.int .i64 1,.int .i64 1]) (heap_alloc_new _ _)) (by simp [Value.oneCell']) (by unfold maxLen; omega) (by omega) (by simp; omega) ?_; intro v' w6 hown6 hgr _ _; have HO6:=Lib.hid (And.intro hown6 hgr); clear hown6 hgr))
    go_ret
    exact gotInts_of (xs:=xs ++ [1,1,1,1,1,1]) ((HD3.out.alloc _).app (by simpa [ints] using HO6.out.1) HO6.out.2) (by omega) (by omega)
   ·clear D3 hz0 hz1 hz2
    go_wp2
    go_ret
    exact gotInts_of (xs:=xs) HD3.out (by omega) (by omega)
end Go.Proofs.YtkfafknliihabaaDoor
namespace Go.Proofs.YtkfafknliihabaaDoor
open Go.RowKit
structure OneSt (w0 : World) (g : Nat) (A : Option Addr) (n c q b : Nat) (s : ByteArray) (x y : Int) (W : World) : Prop where
 rd : Rd W g A n c q
 gr : w0.grownBy W (some g)
 hg : g < w0.heap.size
 res : W.heap[w0.heap.size]? = some (.cells #[.string ⟨#[]⟩,.int .i64 0,.int .i64 0] 34)
 blk : W.heap[b]? = some (.cells #[.string s,.int .i64 x,.int .i64 y] 34)
 lo : w0.heap.size < b
section
variable {w0 : World} {g : Nat} {A : Option Addr} {n c q b : Nat} {s : ByteArray} {x y : Int} {W W' : World}
theorem OneSt.alloc (h : OneSt w0 g A n c q b s x y W) (o : Obj) : OneSt w0 g A n c q b s x y (W.alloc o):=⟨h.rd.alloc o,gb_al h.gr o,h.hg,blk_alloc h.res o,blk_alloc h.blk o,h.lo⟩
theorem OneSt.grown {q' : Nat} (h : OneSt w0 g A n c q b s x y W) (hr : Rd W' g A n c q') (hg : W.grownBy W' (some g)) : OneSt w0 g A n c q' b s x y W':=
 ⟨hr,gb_trans h.gr hg,h.hg,(blk_grown hg h.res (by have:=h.hg; omega)).1,(blk_grown hg h.blk (by have:=h.hg; have:=h.lo; omega)).1,h.lo⟩
theorem OneSt.wide {q' : Nat} (h : OneSt w0 g A n c q b s x y W) (hq : q <= q') : OneSt w0 g A n c q' b s x y W:=⟨h.rd.mono hq,h.gr,h.hg,h.res,h.blk,h.lo⟩
theorem OneSt.set {i : Nat} {v : Value} {s' : ByteArray} {x' y' : Int} (h : OneSt w0 g A n c q b s x y W) (e : (#[Value.string s,.int .i64 x,.int .i64 y] : Array Value).setIfInBounds i v = #[.string s',.int .i64 x',.int .i64 y']) : OneSt w0 g A n c q b s' x' y' (W.setCell ⟨b,i,none⟩ v):=
 ⟨h.rd.setCell (by have:=h.hg; have:=h.lo; simp; omega) v,gb_set h.gr (by have:=h.lo; simp; omega) v,h.hg,(Below.heap_setCell W ⟨b,i,none⟩ v _ (by have:=h.lo; simp; omega)).trans h.res,by rw [blk_setCell h.blk,e],h.lo⟩
theorem OneSt.setS {v : ByteArray} (h : OneSt w0 g A n c q b s x y W) : OneSt w0 g A n c q b v x y (W.setCell ⟨b,0,none⟩ (.string v)):=h.set rfl
theorem OneSt.setX {v : Int} (h : OneSt w0 g A n c q b s x y W) : OneSt w0 g A n c q b s v y (W.setCell ⟨b,1,none⟩ (.int .i64 v)):=h.set rfl
theorem OneSt.setY {v : Int} (h : OneSt w0 g A n c q b s x y W) : OneSt w0 g A n c q b s x v (W.setCell ⟨b,2,none⟩ (.int .i64 v)):=h.set rfl
theorem OneSt.zb (h : OneSt w0 g A n c q b s x y W) : b < W.heap.size:=blk_lt h.blk
end
def GotD (w : World) (g : Nat) (A : Option Addr) (n c q : Nat) (e : Ending) (w' : World) : Prop:=
 ∃ (s : ByteArray) (x y : Int),e = .returned (.agg #[.string s,.int .i64 x,.int .i64 y]) /\ Rd w' g A n c q /\ w.grownBy w' (some g)
theorem gotD_of {w0 : World} {g : Nat} {A : Option Addr} {n c q q' b : Nat} {s : ByteArray} {x y : Int} {W : World} (h : OneSt w0 g A n c q b s x y W) (hq : q <= q') (v1 v2 v3 : Value) :
  Rd (((W.setCell ⟨w0.heap.size,0,none⟩ v1).setCell ⟨w0.heap.size,1,none⟩ v2).setCell ⟨w0.heap.size,2,none⟩ v3) g A n c q' /\ w0.grownBy (((W.setCell ⟨w0.heap.size,0,none⟩ v1).setCell ⟨w0.heap.size,1,none⟩ v2).setCell ⟨w0.heap.size,2,none⟩ v3) (some g):=by
 have hg:=h.hg
 exact ⟨(((h.rd.setCell (by simpa using hg) v1).setCell (by simpa using hg) v2).setCell (by simpa using hg) v3).mono hq,gb_set (gb_set (gb_set h.gr (by simp) v1) (by simp) v2) (by simp) v3⟩
set_option maxRecDepth 20000 in
set_option maxHeartbeats 4000000 in
theorem l1One_any (g q n c : Nat) (A : Option Addr) (lines : Int) (w : World) (h : Rd w g A n c q) (hq : q < 900000000) (hl0 : 0 <= lines) (hl1 : lines <= 1000) :
  Calls Tryd.prog 98 #[.pointer (some ⟨g,0,none⟩),.int .i64 lines] w (GotD w g A n c (q + 10)):=by
 have hgl:=h.gblt
 go_enter Tryd.func98, Tryd.ntmps98
 go_upto_region 1 with fail
 go_cut [5] from 6 to 14 (λ v wx => ∃ (b : Nat) (s : ByteArray) (x : Int),v = .pointer (some ⟨b,0,none⟩) /\ OneSt w g A n c (q + 2) b s x 0 wx)
 case first =>
  go_wp2_with (first
   | (go_at_call 99; refine (of_any g q n c _ 0 6 6 A _ ((h.alloc _).alloc _) (by omega) (by omega) (by omega) (by simp) (by omega) (of_lits (xs:=[⟨#[112,117,116]⟩,⟨#[112,117,116]⟩,⟨#[116,97,107,101]⟩,⟨#[116,97,107,101]⟩,⟨#[101,110,100]⟩,⟨#[108,111,111,107]⟩]) (heap_new' _ _ (by simp)) rfl)).mono ?_; rintro e w1 ⟨s,rfl,hr,hg⟩; have g1:=gb_trans (gb_al (gb_al (World.grownBy.refl w (some g)) _) _) hg; have k1:=(blk_grown hg (blk_alloc (heap_alloc_new w _) _) (by omega)).1; have z1:=blk_lt k1; have HK1:=Lib.hid (And.intro g1 k1); clear h hg g1 k1)
   | (go_at_call 44; refine (pick_any g _ n c A _ _ hr (by omega) (by omega) (by omega)).mono ?_; rintro e w2 ⟨r,rfl,⟨r0,r1⟩,hr2,hg2⟩; have g2:=gb_trans HK1.out.1 hg2; have k2:=(blk_grown hg2 HK1.out.2 (by omega)).1; have z2:=blk_lt k2; have HK2:=Lib.hid (And.intro g2 (And.intro k2 hr2)); clear hg2 g2 k2 hr2))
  all_goals
   go_meet
   exact ⟨w2.heap.size,s,_,rfl,HK2.out.2.2.alloc _,gb_al HK2.out.1 _,hgl,blk_alloc HK2.out.2.1 _,heap_alloc_new _ _,z2⟩
 case rest =>
  obtain ⟨b,s,x,rfl,D⟩:=hcut
  clear h
  have ec:=blk_cell D.blk
  have zb:=D.zb
  go_upto_if 17 with (go_at_call 106; refine (spec_l1Words s _).mono ?_; rintro e w1 ⟨rfl,rfl⟩)
  go_cut [] from 17 to 23 (λ wx => ∃ y : Int,OneSt w g A n c (q + 4) b s x y wx)
  case first =>
   have HD:=Lib.hid D
   clear D
   cases t : (s.toList == putA)
   ·go_wp2
    go_meet
    exact ⟨0,HD.out.wide (by omega)⟩
   ·go_wp2_with (first
     | (go_at_call 44; refine (pick_any g _ n c A _ _ HD.out.rd (by omega) (by omega) (by omega)).mono ?_; rintro e w2 ⟨r,rfl,⟨r0,r1⟩,hr2,hg2⟩; have HD2:=Lib.hid (HD.out.grown hr2 hg2); have zb2:=HD2.out.zb; have zl2:=HD2.out.lo; clear hr2 hg2)
     | (go_at_call 45; refine (num_any g _ n c _ 0 3 3 A _ (HD2.out.alloc _).rd (by omega) (by omega) (by omega) (by simp) (by omega) (num_lits (xs:=[r,0,1000]) (heap_alloc_new _ _) rfl)).mono ?_; rintro e w3 ⟨p3,rfl,_,hr3,hg3⟩; have HD3:=Lib.hid ((HD2.out.alloc _).grown hr3 hg3); have ec3:=blk_cell HD3.out.blk; have fc3:=blk_frozen HD3.out.blk; have zb3:=HD3.out.zb; clear hr3 hg3))
    go_meet
    exact ⟨p3,HD3.out.setY.wide (by omega)⟩
  case rest =>
   obtain ⟨y,D⟩:=hcut
   go_upto_region 4 with fail
   go_cut [31] from 24 to 30 (λ v wx => ∃ t : Bool,v = .bool t /\ OneSt w g A n c (q + 5) b s x y wx)
   case first =>
    have ec:=blk_cell D.blk
    have zb:=D.zb
    have HD:=Lib.hid D
    clear D
    cases t : (s.toList == endA)
    ·have t' : (s.toList == [101,110,100]) = false:=t
     clear t
     go_wp2
     go_meet
     exact ⟨_,rfl,HD.out.wide (by omega)⟩
    ·have t' : (s.toList == [101,110,100]) = true:=t
     clear t
     go_wp2_with (go_at_call 44; refine (pick_any g _ n c A _ _ HD.out.rd (by omega) (by omega) (by omega)).mono ?_; rintro e w2 ⟨r,rfl,⟨r0,r1⟩,hr2,hg2⟩; have HD2:=Lib.hid (HD.out.grown hr2 hg2); clear hr2 hg2)
     all_goals
      go_meet
      exact ⟨_,rfl,HD2.out.wide (by omega)⟩
   case rest =>
   obtain ⟨t,rfl,D⟩:=hcut
   go_upto_if 31 with fail
   go_cut [] from 31 to 32 (λ wx => ∃ s' : ByteArray,OneSt w g A n c (q + 5) b s' x y wx)
   case first =>
    have ec:=blk_cell D.blk
    have fc:=blk_frozen D.blk
    have zb:=D.zb
    have HD:=Lib.hid D
    clear D
    cases t
    ·go_wp2
     go_meet
     exact ⟨s,HD.out⟩
    ·go_wp2
     go_meet
     exact ⟨_,HD.out.setS⟩
   case rest =>
    obtain ⟨s',D⟩:=hcut
    go_wp2_with fail
    refine (pick_any g (q + 5) n c A _ _ D.rd (by omega) (by omega) (by omega)).mono ?_
    rintro e w2 ⟨r,rfl,⟨r0,r1⟩,hr2,hg2⟩
    have D2:=D.grown hr2 hg2
    have ec:=blk_cell D2.blk
    have fc:=blk_frozen D2.blk
    have er:=blk_cell D2.res
    have fr:=blk_frozen D2.res
    have zb:=D2.zb
    have zr:=blk_lt D2.res
    have zlo:=D2.lo
    have HD:=Lib.hid D2
    clear D D2 hr2 hg2
    have hne : ¬ b = w.heap.size:=by omega
    have hne2 : ¬ w.heap.size = b:=by omega
    by_cases e0 : r = 0
    ·subst e0
     go_wp2
     refine bodyPost_ret (v:=.agg #[.string s',.int .i64 0,.int .i64 y]) ?_ rfl ⟨_,_,_,rfl,?_⟩
     ·simp [results,Tryd.results98,go_sem,er]
     ·exact gotD_of HD.out.setX (by omega) _ _ _
    by_cases e1 : r = 1
    ·subst e1
     go_wp2
     refine bodyPost_ret (v:=.agg #[.string s',.int .i64 0,.int .i64 y]) ?_ rfl ⟨_,_,_,rfl,?_⟩
     ·simp [results,Tryd.results98,go_sem,er]
     ·exact gotD_of HD.out.setX (by omega) _ _ _
    by_cases e2 : r = 2
    ·subst e2
     clear ec fc er fr
     go_wp2_with fail
     refine (num_any g (q + 6) n c _ 0 3 3 A _ (HD.out.alloc _).rd (by omega) (by omega) (by omega) (by simp) (by omega) (num_lits (xs:=[-1,7,9223372036854775807]) (heap_alloc_new _ _) rfl)).mono ?_
     rintro e w3 ⟨p3,rfl,_,hr3,hg3⟩
     have HD3:=Lib.hid ((HD.out.alloc _).grown hr3 hg3)
     have ec:=blk_cell HD3.out.blk
     have fc:=blk_frozen HD3.out.blk
     have er:=blk_cell HD3.out.res
     have fr:=blk_frozen HD3.out.res
     have zb3:=HD3.out.zb
     have zr3:=blk_lt HD3.out.res
     clear hr3 hg3
     go_wp2
     refine bodyPost_ret (v:=.agg #[.string s',.int .i64 p3,.int .i64 y]) ?_ rfl ⟨_,_,_,rfl,?_⟩
     ·simp [results,Tryd.results98,go_sem,er]
     ·exact gotD_of HD3.out.setX (by omega) _ _ _
    by_cases e3 : r = 3
    ·subst e3
     clear ec fc er fr
     go_wp2_with fail
     refine (num_any g (q + 6) n c _ 0 3 3 A _ (HD.out.alloc _).rd (by omega) (by omega) (by omega) (by simp) (by omega) (num_lits (xs:=[1001,-1,5]) (heap_alloc_new _ _) rfl)).mono ?_
     rintro e w3 ⟨p3,rfl,_,hr3,hg3⟩
     have HD3:=Lib.hid ((HD.out.alloc _).grown hr3 hg3)
     have ec:=blk_cell HD3.out.blk
     have fc:=blk_frozen HD3.out.blk
     have er:=blk_cell HD3.out.res
     have fr:=blk_frozen HD3.out.res
     have zb3:=HD3.out.zb
     have zr3:=blk_lt HD3.out.res
     clear hr3 hg3
     go_wp2
     refine bodyPost_ret (v:=.agg #[.string s',.int .i64 x,.int .i64 p3]) ?_ rfl ⟨_,_,_,rfl,?_⟩
     ·simp [results,Tryd.results98,go_sem,er]
     ·exact gotD_of HD3.out.setY (by omega) _ _ _
    by_cases e4 : r = 4
    ·subst e4
     clear ec fc er fr
     go_wp2_with fail
     refine (of_any g (q + 6) n c _ 0 3 3 A _ (HD.out.alloc _).rd (by omega) (by omega) (by omega) (by simp) (by omega) (of_lits (xs:=[⟨#[]⟩,⟨#[103,105,118,101]⟩,⟨#[80,85,84]⟩]) (heap_alloc_new _ _) rfl)).mono ?_
     rintro e w3 ⟨p3,rfl,hr3,hg3⟩
     have HD3:=Lib.hid ((HD.out.alloc _).grown hr3 hg3)
     have ec:=blk_cell HD3.out.blk
     have fc:=blk_frozen HD3.out.blk
     have er:=blk_cell HD3.out.res
     have fr:=blk_frozen HD3.out.res
     have zb3:=HD3.out.zb
     have zr3:=blk_lt HD3.out.res
     clear hr3 hg3
     go_wp2
     refine bodyPost_ret (v:=.agg #[.string p3,.int .i64 x,.int .i64 y]) ?_ rfl ⟨_,_,_,rfl,?_⟩
     ·simp [results,Tryd.results98,go_sem,er]
     ·exact gotD_of HD3.out.setS (by omega) _ _ _
    go_wp2
    refine bodyPost_ret (v:=.agg #[.string s',.int .i64 x,.int .i64 y]) ?_ rfl ⟨_,_,_,rfl,?_⟩
    ·simp [results,Tryd.results98,go_sem,er]
    ·exact gotD_of HD.out (by omega) _ _ _
end Go.Proofs.YtkfafknliihabaaDoor
namespace Go.Proofs.YtkfafknliihabaaDoor
open Go.RowKit
structure LSt (w0 : World) (g : Nat) (A : Option Addr) (n c q : Nat) (v : Value) (k : Nat) (xs : List Value) (b : Nat) (s : ByteArray) (x y : Int) (W : World) : Prop where
 st : DSt w0 g A n c q 34 3 v k xs W
 blk : W.heap[b]? = some (.cells #[.string s,.int .i64 x,.int .i64 y] 34)
 lt : ∀ b',v.ownBlock = some b' -> b' < b
 lo : w0.heap.size <= b
section
variable {w0 : World} {g : Nat} {A : Option Addr} {n c q : Nat} {v : Value} {k : Nat} {xs : List Value} {b : Nat} {s : ByteArray} {x y : Int} {W W' : World}
theorem LSt.below (h : LSt w0 g A n c q v k xs b s x y W) (hb : Below W.heap.size W W') : LSt w0 g A n c q v k xs b s x y W':=⟨h.st.below hb,(blk_below hb h.blk).1,h.lt,h.lo⟩
theorem LSt.grown {q' : Nat} (h : LSt w0 g A n c q v k xs b s x y W) (hr : Rd W' g A n c q') (hg : W.grownBy W' (some g)) : LSt w0 g A n c q' v k xs b s x y W':=
 ⟨h.st.grown hr hg,(blk_grown hg h.blk (by have:=h.st.hg; have:=h.lo; omega)).1,h.lt,h.lo⟩
theorem LSt.wide {q' : Nat} (h : LSt w0 g A n c q v k xs b s x y W) (hq : q <= q') : LSt w0 g A n c q' v k xs b s x y W:=⟨h.st.wide hq,h.blk,h.lt,h.lo⟩
theorem LSt.set {i : Nat} {u : Value} {s' : ByteArray} {x' y' : Int} (h : LSt w0 g A n c q v k xs b s x y W) (e : (#[Value.string s,.int .i64 x,.int .i64 y] : Array Value).setIfInBounds i u = #[.string s',.int .i64 x',.int .i64 y']) : LSt w0 g A n c q v k xs b s' x' y' (W.setCell ⟨b,i,none⟩ u):=
 ⟨h.st.aside (gb_setCell ⟨b,i,none⟩ u) (by
   cases e2 : v.ownBlock with
   | none => exact .inl rfl
   | some b' => right; intro e3; injection e3 with e3; have:=h.lt b' e2; simp at e3; omega) (λ b' e2 => by injection e2 with e2; simp at e2; have:=h.lo; omega),
  by rw [blk_setCell h.blk,e],h.lt,h.lo⟩
theorem LSt.zb (h : LSt w0 g A n c q v k xs b s x y W) : b < W.heap.size:=blk_lt h.blk
theorem LSt.make (h : DSt w0 g A n c q 34 3 v k xs W) (s : ByteArray) (x y : Int) : LSt w0 g A n c q v k xs W.heap.size s x y (W.alloc (.cells #[.string s,.int .i64 x,.int .i64 y] 34)):=
 ⟨h.alloc _,heap_alloc_new _ _,λ b' e => (h.own.lt b' e).2,h.hb⟩
end
theorem deeds_snoc' (ds : List DeedD) (s : ByteArray) (x y : Int) : deeds (ds ++ [⟨s,x,y⟩]) = deeds ds ++ [.string s,.int .i64 x,.int .i64 y]:=by simp [deeds,DeedD.cells]
def GotDeeds (w : World) (g : Nat) (A : Option Addr) (n c q : Nat) (e : Ending) (w' : World) : Prop:=
 ∃ (A' : Option Addr) (n' c' : Nat) (ds : List DeedD),e = .returned (.slice A' n' c') /\ OwnC 34 3 w' w.heap.size w'.heap.size A' n' c' (deeds ds) /\ n' <= 20 /\ Rd w' g A n c q /\ w.grownBy w' (some g)
theorem gotDeeds_of {w : World} {g : Nat} {A : Option Addr} {n c q q' k : Nat} {v : Value} {ds : List DeedD} {W : World} (h : DSt w g A n c q 34 3 v k (deeds ds) W) (hk : k <= 20) (hq : q <= q') : GotDeeds w g A n c q' (.returned v) W:=by
 obtain ⟨A1,c1,rfl,ho⟩:=ownC_of_row h.own (by decide)
 exact ⟨A1,k,c1,ds,rfl,ho,hk,h.rd.mono hq,h.gr⟩
set_option maxRecDepth 20000 in
set_option maxHeartbeats 4000000 in
theorem l1List_any (g q n c : Nat) (A : Option Addr) (lines : Int) (w : World) (h : Rd w g A n c q) (hq : q < 800000000) (hl0 : 0 <= lines) (hl1 : lines <= 1000) :
  Calls Tryd.prog 68 #[.pointer (some ⟨g,0,none⟩),.int .i64 lines] w (GotDeeds w g A n c (q + 200)):=by
 obtain ⟨i0,hi,hz0,hz1,hz2⟩:=info_parts info_deed
 have HI:=Lib.hid (And.intro hi (And.intro hz0 (And.intro hz1 hz2)))
 clear hi hz0 hz1 hz2
 have D1:=DSt.init 34 3 h
 have gb:=D1.hg
 clear h
 go_enter Tryd.func68, Tryd.ntmps68
 go_wp2_with fail
 refine (pick_any g _ n c A _ _ D1.rd (by omega) (by omega) (by omega)).mono ?_
 rintro e w2 ⟨r,rfl,⟨r0,r5⟩,hr,hg⟩
 have D2:=(D1.grown hr hg).wide (q':=q + 190 - 12 * r.toNat) (by omega)
 clear D1 hr hg
 obtain ⟨R,rfl⟩:=Int.eq_ofNat_of_zero_le r0
 have HD2:=Lib.hid D2
 clear D2
 go_wp2
 go_loopw [5,6] (λ v i wr => ∃ (m k : Nat) (ds : List DeedD),i = .int .i64 m /\ m + k <= 13 /\ ds.length = k /\ DSt w g A n c (q + 190 - 12 * m) 34 3 v k (deeds ds) wr) (λ _ i _ => (intOf i).toNat)
 case atStart => exact ⟨R,0,[],rfl,by omega,rfl,HD2.out⟩
 case round =>
  obtain ⟨m,k,ds,rfl,hmk,hxk,D⟩:=hrel
  have HX:=Lib.hid hxk
  clear hxk
  obtain ⟨V,hV⟩ : ∃ V,V = u5:=⟨_,rfl⟩
  by_cases hlt : 0 < m
  ·have z4:=D.hb
   have HD:=Lib.hid D
   clear D
   go_upto_region 6 with (go_at_call 98; refine (l1One_any g (q + 190 - 12 * m) n c A lines _ HD.out.rd (by omega) hl0 hl1).mono ?_; rintro e w3 ⟨s,x,y,rfl,hr,hg⟩; have HD3:=Lib.hid (LSt.make (HD.out.grown hr hg) s x y); have zb3:=HD3.out.zb; have ec:=blk_cell HD3.out.blk; clear hr hg)
   go_cut [26] from 11 to 31 (λ v wx => ∃ t : Bool,v = .bool t /\ LSt w g A n c (q + 190 - 12 * m + 11) u5 k (deeds ds) w3.heap.size s x y wx)
   case first =>
    obtain ⟨t,ht⟩ : ∃ t,t = deedB lines ⟨s,x,y⟩:=⟨_,rfl⟩
    have HT:=Lib.hid ht
    clear ht
    cases t
    ·go_wp2_with (first
      | (go_at_call 89; refine (spec_l1Deed ⟨s,x,y⟩ lines _).mono ?_; rintro e w4 ⟨rfl,b4⟩; rw [<- HT.out]; have HD4:=Lib.hid (HD3.out.below b4); clear b4)
      | (go_at_call 44; refine (pick_any g (q + 190 - 12 * m + 10) n c A _ _ HD4.out.st.rd (by omega) (by omega) (by omega)).mono ?_; rintro e w5 ⟨r2,rfl,⟨r20,r21⟩,hr2,hg2⟩; have HD5:=Lib.hid (HD4.out.grown hr2 hg2); clear hr2 hg2))
     all_goals
      go_meet
      exact ⟨_,rfl,HD5.out⟩
    ·go_wp2_with (go_at_call 89; refine (spec_l1Deed ⟨s,x,y⟩ lines _).mono ?_; rintro e w4 ⟨rfl,b4⟩; rw [<- HT.out]; have HD4:=Lib.hid (HD3.out.below b4); clear b4)
     go_meet
     exact ⟨_,rfl,HD4.out.wide (by omega)⟩
   case rest =>
    obtain ⟨t,rfl,D6⟩:=hcut
    have HD6:=Lib.hid D6
    clear D6
    go_upto_if 26 with fail
    go_cut [] from 11 to 31 (λ wx => ∃ (s' : ByteArray) (x' y' : Int),LSt w g A n c (q + 190 - 12 * m + 11) u5 k (deeds ds) w3.heap.size s' x' y' wx)
    case first =>
     have ec:=blk_cell HD6.out.blk
     have fc:=blk_frozen HD6.out.blk
     have zb:=HD6.out.zb
     cases t
     ·go_wp2
      go_meet
      exact ⟨s,x,y,HD6.out⟩
     ·go_wp2
      go_meet
      exact ⟨_,_,_,((HD6.out.set (i:=0) (u:=.string ⟨#[116,97,107,101]⟩) (s':=⟨#[116,97,107,101]⟩) (x':=x) (y':=y) rfl).set (i:=1) (u:=.int .i64 1) (s':=⟨#[116,97,107,101]⟩) (x':=1) (y':=y) rfl).set (i:=2) (u:=.int .i64 0) (s':=⟨#[116,97,107,101]⟩) (x':=1) (y':=0) rfl⟩
    case rest =>
     obtain ⟨s',x',y',D7⟩:=hcut
     have ec:=blk_cell D7.blk
     have zb:=D7.zb
     have zw:=D7.st.hb
     have HD7:=Lib.hid D7
     obtain ⟨hi,hz0,hz1,hz2⟩:=HI.out
     have HH:=Lib.hid hi
     clear hi D7
     go_wp2_with (at_builtin; refine wpList_append_own_at _ rfl _ _ 24 rfl w.heap.size 34 i0 (.agg #[.string ⟨#[]⟩,.int .i64 0,.int .i64 0]) 3 32 Tryd.underlying24 HH.out hz0 hz1 hz2 rfl (by decide) _ _ _ rfl ((HD7.out.st.alloc _).own) ⟨wc.heap.size,0,none⟩ 1 1 [.string s',.int .i64 x',.int .i64 y'] rfl rfl (World.news_of_block (cs:=#[.string s',.int .i64 x',.int .i64 y']) (heap_alloc_new _ _)) (by simp [Value.oneCell']) (by unfold maxLen; omega) (by omega) (by simp; omega) ?_; intro v' w6 hown6 hgr _ _)
     have D8:=((HD7.out.st.alloc _).app hown6 hgr).wide (q':=q + 190 - 12 * (m - 1)) (by omega)
     have HD8:=Lib.hid D8
     clear D8 hown6 hgr hz0 hz1 hz2
     go_wp2
     go_roundw
     case rel => exact ⟨m - 1,k + 1,ds ++ [⟨s',x',y'⟩],int_pred hlt,by omega,by simp [HX.out],by rw [deeds_snoc']; exact HD8.out⟩
     case measure => simp [intOf]; omega
  ·have em : m = 0:=by omega
   subst em
   have HD:=Lib.hid D
   clear D
   go_wp2
   go_ret
   exact gotDeeds_of HD.out (by omega) (by omega)
end Go.Proofs.YtkfafknliihabaaDoor
namespace Go.Proofs.YtkfafknliihabaaDoor
open Go.RowKit
theorem own_some {E s : Nat} {w : World} {base k : Nat} {v : Value} {xs : List Value} (h : w.ownsRow base E s v k xs) (hk : 0 < k) : ∃ g c,v = .slice (some ⟨g,0,none⟩) k c:=by
 obtain ⟨_,x | ⟨b,cap,cur,e,_⟩⟩:=h
 ·have:=x.2; omega
 ·exact ⟨b,cap,e⟩
set_option maxRecDepth 20000 in
set_option maxHeartbeats 4000000 in
theorem l5Table_any (g q n c : Nat) (A : Option Addr) (lines : Int) (w : World) (h : Rd w g A n c q) (hq : q < 800000000) (hl0 : 0 <= lines) (hl1 : lines <= 1000) :
  Calls Tryd.prog 69 #[.pointer (some ⟨g,0,none⟩),.int .i64 lines] w (GotDeeds w g A n c (q + 60)):=by
 obtain ⟨i0,hi,hz0,hz1,hz2⟩:=info_parts info_deed
 have HI:=Lib.hid (And.intro hi (And.intro hz0 (And.intro hz1 hz2)))
 clear hi hz0 hz1 hz2
 have D1:=DSt.init 34 3 h
 have gb:=D1.hg
 clear h
 go_enter Tryd.func69, Tryd.ntmps69
 go_wp2_with fail
 refine (pick_any g _ n c A _ _ D1.rd (by omega) (by omega) (by omega)).mono ?_
 rintro e w2 ⟨r,rfl,⟨r0,r5⟩,hr,hg⟩
 have D2:=(D1.grown hr hg).wide (q':=q + 30 - 5 * (1 + r.toNat)) (by omega)
 clear D1 hr hg
 obtain ⟨R,rfl⟩:=Int.eq_ofNat_of_zero_le r0
 have HD2:=Lib.hid D2
 clear D2
 go_wp2
 go_loopw [5,6] (λ v i wr => ∃ (m k : Nat) (ds : List DeedD),i = .int .i64 m /\ m + k <= 4 /\ 1 <= m + k /\ ds.length = k /\ DSt w g A n c (q + 30 - 5 * m) 34 3 v k (deeds ds) wr) (λ _ i _ => (intOf i).toNat)
 case atStart => exact ⟨1 + R,0,[],by first | rfl | (congr 1; omega),by omega,by omega,rfl,HD2.out⟩
 case round =>
  obtain ⟨m,k,ds,rfl,hmk,hmk1,hxk,D⟩:=hrel
  have HX:=Lib.hid hxk
  clear hxk
  obtain ⟨V,hV⟩ : ∃ V,V = u5:=⟨_,rfl⟩
  by_cases hlt : 0 < m
  ·have z4:=D.hb
   have HD:=Lib.hid D
   clear D
   go_upto_region 6 with (first
    | (go_at_call 99; refine (of_any g _ n c _ 0 3 3 A _ (HD.out.alloc _).rd (by omega) (by omega) (by omega) (by simp) (by omega) (of_lits (xs:=[⟨#[116,97,107,101]⟩,⟨#[116,97,107,101]⟩,⟨#[112,117,116]⟩]) (heap_alloc_new _ _) rfl)).mono ?_; rintro e w3 ⟨s,rfl,hr,hg⟩; have HD3:=Lib.hid ((HD.out.alloc _).grown hr hg); clear hr hg)
    | (go_at_call 44; refine (pick_any g _ n c A _ _ HD3.out.rd (by omega) (by omega) (by omega)).mono ?_; rintro e w4 ⟨r2,rfl,⟨r20,r21⟩,hr2,hg2⟩; have HD4:=Lib.hid (HD3.out.grown hr2 hg2); clear hr2 hg2))
   have HL4:=Lib.hid (LSt.make HD4.out s (1 + r2) 0)
   have ec:=blk_cell HL4.out.blk
   have fc:=blk_frozen HL4.out.blk
   have zb:=HL4.out.zb
   go_upto_if 27 with fail
   go_cut [] from 27 to 30 (λ wx => ∃ y : Int,LSt w g A n c (q + 30 - 5 * m + 3) u5 k (deeds ds) w4.heap.size s (1 + r2) y wx)
   case first =>
    cases t : (s.toList == [112,117,116])
    ·clear t
     go_wp2
     go_meet
     exact ⟨0,HL4.out.wide (by omega)⟩
    ·clear t
     go_wp2_with (go_at_call 44; refine (pick_any g _ n c A _ _ HL4.out.st.rd (by omega) (by omega) (by omega)).mono ?_; rintro e w5 ⟨r3,rfl,⟨r30,r31⟩,hr3,hg3⟩; have HL5:=Lib.hid (HL4.out.grown hr3 hg3); have ec5:=blk_cell HL5.out.blk; have fc5:=blk_frozen HL5.out.blk; have zb5:=HL5.out.zb; clear hr3 hg3)
     go_meet
     exact ⟨_,(HL5.out.set (i:=2) (u:=.int .i64 r3) (s':=s) (x':=1 + r2) (y':=r3) rfl).wide (by omega)⟩
   case rest =>
    obtain ⟨y,D5⟩:=hcut
    have HL5:=Lib.hid D5
    clear D5 ec fc zb
    go_upto_if 33 with (go_at_call 44; refine (pick_any g _ n c A _ _ HL5.out.st.rd (by omega) (by omega) (by omega)).mono ?_; rintro e w6 ⟨r4,rfl,⟨r40,r41⟩,hr4,hg4⟩; have HL6:=Lib.hid (HL5.out.grown hr4 hg4); clear hr4 hg4)
    have ec:=blk_cell HL6.out.blk
    have fc:=blk_frozen HL6.out.blk
    have zb:=HL6.out.zb
    go_cut [] from 33 to 34 (λ wx => ∃ x : Int,LSt w g A n c (q + 30 - 5 * m + 4) u5 k (deeds ds) w4.heap.size s x y wx)
    case first =>
     by_cases e4 : r4 = 0
     ·subst e4
      go_wp2
      go_meet
      exact ⟨_,(HL6.out.set (i:=1) (u:=.int .i64 0) (s':=s) (x':=0) (y':=y) rfl).wide (by omega)⟩
     ·have e4' : (r4 == 0) = false:=by simpa using e4
      go_wp2
      go_meet
      exact ⟨_,HL6.out.wide (by omega)⟩
    case rest =>
     obtain ⟨x,D7⟩:=hcut
     clear ec fc zb
     have ec:=blk_cell D7.blk
     have zb:=D7.zb
     have zw:=D7.st.hb
     have HD7:=Lib.hid D7
     obtain ⟨hi,hz0,hz1,hz2⟩:=HI.out
     have HH:=Lib.hid hi
     clear hi D7
     go_wp2_with (at_builtin; refine wpList_append_own_at _ rfl _ _ 24 rfl w.heap.size 34 i0 (.agg #[.string ⟨#[]⟩,.int .i64 0,.int .i64 0]) 3 32 Tryd.underlying24 HH.out hz0 hz1 hz2 rfl (by decide) _ _ _ rfl ((HD7.out.st.alloc _).own) ⟨wc.heap.size,0,none⟩ 1 1 [.string s,.int .i64 x,.int .i64 y] rfl rfl (World.news_of_block (cs:=#[.string s,.int .i64 x,.int .i64 y]) (heap_alloc_new _ _)) (by simp [Value.oneCell']) (by unfold maxLen; omega) (by omega) (by simp; omega) ?_; intro v' w6 hown6 hgr _ _; have HO6:=Lib.hid (And.intro hown6 hgr); clear hown6 hgr)
     have D8:=((HD7.out.st.alloc _).app HO6.out.1 HO6.out.2).wide (q':=q + 30 - 5 * (m - 1)) (by omega)
     have HD8:=Lib.hid D8
     clear D8 hz0 hz1 hz2
     go_wp2
     go_roundw
     case rel => exact ⟨m - 1,k + 1,ds ++ [⟨s,x,y⟩],int_pred hlt,by omega,by omega,by simp [HX.out],by rw [deeds_snoc']; exact HD8.out⟩
     case measure => simp [intOf]; omega
  ·have em : m = 0:=by omega
   subst em
   have HDD:=Lib.hid D
   clear D hlt
   go_wp2_with fail
   refine (pick_any g _ n c A _ _ HDD.out.rd (by omega) (by omega) (by omega)).mono ?_
   rintro e w3 ⟨p1,rfl,⟨p10,p11⟩,hr,hg⟩
   have D3:=HDD.out.grown hr hg
   clear hr hg
   have z3:=D3.hb
   obtain ⟨hi,hz0,hz1,hz2⟩:=HI.out
   have HH:=Lib.hid hi
   clear hi
   have HD3:=Lib.hid D3
   by_cases e0 : p1 = 0
   ·subst e0
    clear D3 p10 p11 hz0 hz1 hz2
    go_wp2
    go_ret
    exact gotDeeds_of (ds:=[]) ((HD3.out.alloc _).fresh (World.ownsRow_made w3 #[] 0 (by have:=HD3.out.hb; omega) (Nat.zero_le _) (by simp))) (by omega) (by omega)
   by_cases e1 : p1 = 1
   ·subst e1
    clear e0 p10 p11 D3
    go_wp2_with (first
     | (go_at_call 99; refine (of_any g _ n c _ 0 3 3 A _ (HD3.out.alloc _).rd (by omega) (by omega) (by omega) (by simp) (by omega) (of_lits (xs:=[⟨#[101,110,100]⟩,⟨#[108,111,111,107]⟩,⟨#[116,97,107,101]⟩]) (heap_alloc_new _ _) rfl)).mono ?_; rintro e w5 ⟨s,rfl,hr,hg⟩; have HD5:=Lib.hid ((HD3.out.alloc _).grown hr hg); have z5:=HD5.out.hb; clear hr hg)
     | (go_at_call 45; refine (num_any g _ n c _ 0 3 3 A _ (HD5.out.alloc _).rd (by omega) (by omega) (by omega) (by simp) (by omega) (num_lits (xs:=[1,7,-1]) (heap_alloc_new _ _) rfl)).mono ?_; rintro e w7 ⟨p3,rfl,_,hr,hg⟩; have HD7:=Lib.hid ((HD5.out.alloc _).grown hr hg); have z7:=HD7.out.hb; clear hr hg)
     | (at_builtin; refine wpList_append_own_at _ rfl _ _ 24 rfl w.heap.size 34 i0 (.agg #[.string ⟨#[]⟩,.int .i64 0,.int .i64 0]) 3 32 Tryd.underlying24 HH.out hz0 hz1 hz2 rfl (by decide) _ _ _ rfl ((HD7.out.alloc _).own) ⟨w7.heap.size,0,none⟩ 1 1 [.string s,.int .i64 p3,.int .i64 0] rfl rfl (World.news_of_block (cs:=#[.string s,.int .i64 p3,.int .i64 0]) (heap_alloc_new _ _)) (by simp [Value.oneCell']) (by unfold maxLen; omega) (by omega) (by simp; omega) ?_; intro v' w6 hown6 hgr _ _; have HO6:=Lib.hid (And.intro hown6 hgr); clear hown6 hgr))
    go_ret
    exact gotDeeds_of (ds:=ds ++ [⟨s,p3,0⟩]) ((HD7.out.alloc _).app (by rw [deeds_snoc']; exact HO6.out.1) HO6.out.2) (by omega) (by omega)
   by_cases e2 : p1 = 2
   ·subst e2
    clear e0 e1 p10 p11 D3
    obtain ⟨b1,c1,hv1⟩:=own_some HD3.out.own (by omega)
    have HV:=Lib.hid hv1
    subst hv1
    have hk0 : 1 <= k:=by omega
    have hk4 : k <= 4:=by omega
    go_wp2_with fail
    go_loopw [5] (λ v wr => ∃ (gb k cb : Nat) (ds : List DeedD),v = .slice (some ⟨gb,0,none⟩) k cb /\ 1 <= k /\ k <= 9 /\ ds.length = k /\ DSt w g A n c (q + 40) 34 3 v k (deeds ds) wr) (λ v _ => match v with | .slice _ n _ => 9 - n | _ => 0)
    case atStart => exact ⟨b1,k,c1,ds,rfl,hk0,by omega,HX.out,HD3.out.wide (by omega)⟩
    case round =>
     clear HV HX HD3 hk0 hk4
     obtain ⟨gb,k,cb,ds,rfl,hk1,hk9,hxk,D⟩:=hrel
     by_cases hlt : k < 9
     ·obtain ⟨d,hd⟩ : ∃ d,ds[0]? = some d:=⟨_,List.getElem?_eq_getElem (by omega)⟩
      obtain ⟨g0,g1,g2⟩:=deeds_get hd
      have ec0:=row_cells D.own g0
      have ec1:=row_cells D.own g1
      have ec2:=row_cells D.own g2
      simp only [Nat.zero_mul,Nat.zero_add] at ec0 ec1 ec2
      have zb : gb < wr.heap.size:=by obtain ⟨_,cs,h2,_⟩:=row_blk D.own; exact blk_lt h2
      have zw:=D.hb
      have hk1' : (0 : Int) < (k : Int):=by omega
      have hk9' : (k : Int) < 9:=by omega
      have hk1'' : 0 < k:=by omega
      have HX:=Lib.hid hxk
      have HD7:=Lib.hid D
      clear hxk D hd g0 g1 g2
      go_wp2_with (at_builtin; refine wpList_append_own_at _ rfl _ _ 24 rfl w.heap.size 34 i0 (.agg #[.string ⟨#[]⟩,.int .i64 0,.int .i64 0]) 3 32 Tryd.underlying24 HH.out hz0 hz1 hz2 rfl (by decide) _ _ _ rfl ((HD7.out.alloc _).own) ⟨wr.heap.size,0,none⟩ 1 1 [.string d.act,.int .i64 d.a,.int .i64 d.b] rfl rfl (World.news_of_block (cs:=#[.string d.act,.int .i64 d.a,.int .i64 d.b]) (heap_alloc_new _ _)) (by simp [Value.oneCell']) (by unfold maxLen; omega) (by omega) (by simp; omega) ?_; intro v' w6 hown6 hgr _ _; have HO6:=Lib.hid (And.intro hown6 hgr); clear hown6 hgr)
      obtain ⟨gn,cn,hvn⟩:=own_some HO6.out.1 (by omega)
      subst hvn
      have HD8:=Lib.hid ((HD7.out.alloc _).app HO6.out.1 HO6.out.2)
      have HK:=Lib.hid hk9
      clear hz0 hz1 hz2 hk9' hk1' hk1''
      go_wp2
      go_roundw
      case rel => exact ⟨gn,k + 1,cn,ds ++ [d],rfl,by omega,by omega,by simp [HX.out],by rw [deeds_snoc']; exact HD8.out⟩
      case measure => simp; omega
     ·have hk9' : ¬ (k : Int) < 9:=by omega
      have HX:=Lib.hid hxk
      have HD7:=Lib.hid D
      clear hxk D
      go_wp2
      go_ret
      exact gotDeeds_of (ds:=ds) HD7.out (by omega) (by omega)
   ·clear D3 hz0 hz1 hz2
    have e0' : (p1 == 0) = false:=by simpa using e0
    have e1' : (p1 == 1) = false:=by simpa using e1
    have e2' : (p1 == 2) = false:=by simpa using e2
    go_wp2
    go_ret
    exact gotDeeds_of (ds:=ds) HD3.out (by omega) (by omega)
def GotCase (w : World) (g : Nat) (A : Option Addr) (n c q : Nat) (e : Ending) (w' : World) : Prop:=
 ∃ (A1 : Option Addr) (n1 c1 : Nat) (xs : List Int) (A2 : Option Addr) (n2 c2 : Nat) (ds : List DeedD) (A3 : Option Addr) (n3 c3 : Nat) (ts : List DeedD),e = .returned (.tuple #[.slice A1 n1 c1,.slice A2 n2 c2,.slice A3 n3 c3]) /\ OwnC 3 1 w' w.heap.size w'.heap.size A1 n1 c1 (ints xs) /\ OwnC 34 3 w' w.heap.size w'.heap.size A2 n2 c2 (deeds ds) /\ OwnC 34 3 w' w.heap.size w'.heap.size A3 n3 c3 (deeds ts) /\ n1 <= 10 /\ n2 <= 20 /\ n3 <= 20 /\ Rd w' g A n c q /\ w.grownBy w' (some g)
set_option maxHeartbeats 2000000 in
theorem l5Case_any (g q n c : Nat) (A : Option Addr) (w : World) (h : Rd w g A n c q) (hq : q < 700000000) :
  Calls Tryd.prog 43 #[.pointer (some ⟨g,0,none⟩)] w (GotCase w g A n c (q + 280)):=by
 have hgl:=h.gblt
 go_enter Tryd.func43, Tryd.ntmps43
 go_wp2_with fail
 refine (l1Rooms_any g q n c A _ h (by omega)).mono ?_
 rintro e w1 ⟨A1,n1,c1,xs,rfl,o1,hn1,r1,g1⟩
 have s1:=g1.size
 have HO:=Lib.hid (And.intro o1 g1)
 clear h o1 g1
 go_wp2_with fail
 refine (l1List_any g (q + 20) n c A n1 _ r1 (by omega) (by omega) (by omega)).mono ?_
 rintro e w2 ⟨A2,n2,c2,ds,rfl,o2,hn2,r2,g2⟩
 have s2:=g2.size
 have HO2:=Lib.hid (And.intro o2 (And.intro g2 r2))
 clear o2 g2 r2 r1
 go_wp2_with fail
 refine (l5Table_any g (q + 20 + 200) n c A n1 _ HO2.out.2.2 (by omega) (by omega) (by omega)).mono ?_
 rintro e w3 ⟨A3,n3,c3,ts,rfl,o3,hn3,r3,g3⟩
 have s3:=g3.size
 have HO3:=Lib.hid (And.intro o3 (And.intro g3 r3))
 clear o3 g3 r3
 go_wp2
 refine bodyPost_ret (v:=.tuple #[.slice A1 n1 c1,.slice A2 n2 c2,.slice A3 n3 c3]) (by simp [results,Tryd.results43,go_sem]) rfl ?_
 exact ⟨A1,n1,c1,xs,A2,n2,c2,ds,A3,n3,c3,ts,rfl,(((HO.out.1.gb HO2.out.2.1 hgl).gb HO3.out.2.1 hgl)).wide (Nat.le_refl _) (by omega),((HO2.out.1.gb HO3.out.2.1 (by omega))).wide s1 (by omega),HO3.out.1.from (by omega),hn1,hn2,hn3,HO3.out.2.2,gb_trans (gb_trans HO.out.2 HO2.out.2.1) HO3.out.2.1⟩
end Go.Proofs.YtkfafknliihabaaDoor
namespace Go.Proofs.YtkfafknliihabaaDoor
open Go.RowKit
def DrewTurns (w : World) (e : Ending) (w' : World) : Prop:=
 ∃ (A1 : Option Addr) (n1 c1 : Nat) (xs : List Int) (A2 : Option Addr) (n2 c2 : Nat) (ds : List DeedD) (A3 : Option Addr) (n3 c3 : Nat) (ts : List DeedD) (x : Int),e = .returned (.tuple #[.slice A1 n1 c1,.slice A2 n2 c2,.slice A3 n3 c3,.int .i64 x]) /\ OwnC 3 1 w' w.heap.size w'.heap.size A1 n1 c1 (ints xs) /\ OwnC 34 3 w' w.heap.size w'.heap.size A2 n2 c2 (deeds ds) /\ OwnC 34 3 w' w.heap.size w'.heap.size A3 n3 c3 (deeds ts) /\ n1 <= 10 /\ n2 <= 20 /\ n3 <= 20 /\ Below w.heap.size w w'
def GotTurns (w : World) (g : Nat) (e : Ending) (w' : World) : Prop:=
 ∃ (A1 : Option Addr) (n1 c1 : Nat) (xs : List Int) (A2 : Option Addr) (n2 c2 : Nat) (ds : List DeedD) (A3 : Option Addr) (n3 c3 : Nat) (ts : List DeedD) (x : Int),e = .returned (.tuple #[.slice A1 n1 c1,.slice A2 n2 c2,.slice A3 n3 c3,.int .i64 x]) /\ OwnC 3 1 w' w.heap.size w'.heap.size A1 n1 c1 (ints xs) /\ OwnC 34 3 w' w.heap.size w'.heap.size A2 n2 c2 (deeds ds) /\ OwnC 34 3 w' w.heap.size w'.heap.size A3 n3 c3 (deeds ts) /\ n1 <= 10 /\ n2 <= 20 /\ n3 <= 20 /\ w.grownBy w' (some g)
set_option maxHeartbeats 2000000 in
theorem l5Turns_any (g q n c : Nat) (A : Option Addr) (w : World) (h : Rd w g A n c q) (hq : q < 600000000) :
  Calls Tryd.prog 31 #[.pointer (some ⟨g,0,none⟩)] w (GotTurns w g):=by
 have hgl:=h.gblt
 go_enter Tryd.func31, Tryd.ntmps31
 go_wp2_with fail
 refine (l5Case_any g q n c A _ h (by omega)).mono ?_
 rintro e w2 ⟨B1,m1,d1,xs,B2,m2,d2,ds,B3,m3,d3,ts,rfl,o1,o2,o3,h1,h2,h3,r2,g2⟩
 have s2:=g2.size
 have HO:=Lib.hid (And.intro o1 (And.intro o2 (And.intro o3 g2)))
 clear h o1 o2 o3 g2
 go_wp2_with fail
 refine (num_any g _ n c _ 0 8 8 A _ (r2.alloc _) (by omega) (by omega) (by omega) (by simp) (by omega) (num_lits (xs:=[3,5,1,8,0,40,41,-1]) (heap_alloc_new _ _) rfl)).mono ?_
 rintro e w3 ⟨x,rfl,_,hr,hg⟩
 have s3:=hg.size
 have HG:=Lib.hid (gb_trans (gb_al (World.grownBy.refl w2 _) _) hg)
 clear hr hg r2
 go_wp2
 refine bodyPost_ret (v:=.tuple #[.slice B1 m1 d1,.slice B2 m2 d2,.slice B3 m3 d3,.int .i64 x]) (by simp [results,Tryd.results31,go_sem]) rfl ?_
 have s4:=HG.out.size
 exact ⟨B1,m1,d1,xs,B2,m2,d2,ds,B3,m3,d3,ts,x,rfl,(HO.out.1.gb HG.out hgl).wide (Nat.le_refl _) (by omega),(HO.out.2.1.gb HG.out hgl).wide (Nat.le_refl _) (by omega),(HO.out.2.2.1.gb HG.out hgl).wide (Nat.le_refl _) (by omega),h1,h2,h3,gb_trans HO.out.2.2.2 HG.out⟩
set_option maxHeartbeats 2000000 in
theorem DrawServeAround_any (A : Option Addr) (n c : Nat) (w : World) (h : Code w A n c) : Calls Tryd.prog 13 #[.slice A n c] w (DrewTurns w):=by
 go_enter Tryd.func13, Tryd.ntmps13
 go_wp2_with fail
 refine (open_any _ _ _ _ h).mono ?_
 rintro e w1 ⟨g,A1,n1,c1,rfl,r1,b1,g0⟩
 have HB1:=Lib.hid b1
 have z1:=b1.size
 clear h b1
 go_wp2_with fail
 refine (l5Turns_any g 0 n1 c1 A1 _ r1 (by omega)).mono ?_
 rintro e w2 ⟨B1,m1,d1,xs,B2,m2,d2,ds,B3,m3,d3,ts,x,rfl,o1,o2,o3,h1,h2,h3,g2⟩
 have HO:=Lib.hid (And.intro o1 (And.intro o2 (And.intro o3 g2)))
 clear r1 o1 o2 o3 g2
 go_wp2
 refine bodyPost_ret (v:=.tuple #[.slice B1 m1 d1,.slice B2 m2 d2,.slice B3 m3 d3,.int .i64 x]) (by simp [results,Tryd.results13,go_sem]) rfl ?_
 exact ⟨B1,m1,d1,xs,B2,m2,d2,ds,B3,m3,d3,ts,x,rfl,HO.out.1.wide z1 (Nat.le_refl _),HO.out.2.1.wide z1 (Nat.le_refl _),HO.out.2.2.1.wide z1 (Nat.le_refl _),h1,h2,h3,HB1.out.trans (below_of_gb HO.out.2.2.2 g0 z1)⟩
end Go.Proofs.YtkfafknliihabaaDoor
namespace Go.Proofs.YtkfafknliihabaaDoor
open Go.RowKit
theorem svals_at {w : World} {lo hi n c : Nat} {A : Option Addr} {F : List (Nat × List UInt8)} (h : Slc w lo hi 2 A n c (svals F)) {k : Nat} (hk : k < n) :
  ∃ b off p,A = some ⟨b,off,none⟩ /\ b < w.heap.size /\ F[k]? = some p /\ w.cell? ⟨b,off + k * 2,none⟩ = some (.int .i64 p.1) /\ w.cell? ⟨b,off + k * 2 + 1,none⟩ = some (.string ⟨p.2.toArray⟩):=by
 rw [<- srvs_svds] at h
 obtain ⟨b,off,d,e,_,_,h3,hd,e1,e2⟩:=h.srvsAt hk
 unfold svds at hd
 rw [List.getElem?_map] at hd
 cases hF : F[k]? with
 | none => rw [hF] at hd; cases hd
 | some p =>
  rw [hF] at hd
  simp only [Option.map_some,Option.some.injEq] at hd
  subst hd
  exact ⟨b,off,p,e,h3,rfl,e1,e2⟩
theorem svals_len {w : World} {lo hi n c : Nat} {A : Option Addr} {F : List (Nat × List UInt8)} (h : Slc w lo hi 2 A n c (svals F)) : F.length = n:=by
 rw [<- srvs_svds] at h
 have:=h.srvsLen
 rw [svds_len] at this; exact this
theorem deeds_snoc2 (ds : List DeedD) (F : List (Nat × List UInt8)) (ts : List DeedD) {k : Nat} {p : Nat × List UInt8} (h : F[k]? = some p) : deeds (ds ++ (F.take (k + 1)).map (entD ts)) = deeds (ds ++ (F.take k).map (entD ts)) ++ [.string (entD ts p).act,.int .i64 (entD ts p).a,.int .i64 (entD ts p).b]:=by
 obtain ⟨hk,e⟩:=List.getElem?_eq_some_iff.1 h
 rw [List.take_succ_eq_append_getElem hk,e,List.map_append,<- List.append_assoc]
 exact deeds_snoc' _ (entD ts p).act (entD ts p).a (entD ts p).b
theorem deeds_cell (ds : List DeedD) : ∀ u ∈ deeds ds,u.oneCell' = true:=by
 intro u hu
 obtain ⟨d,_,hd⟩:=List.mem_flatMap.1 hu
 simp only [DeedD.cells,List.mem_cons,List.not_mem_nil,or_false] at hd
 rcases hd with rfl | rfl | rfl <;> rfl
theorem held1b {W0 W : World} {a : Addr} {v : Value} (h : W.cell? a = some v /\ Below W0.heap.size W0 W) : Below W0.heap.size W0 W:=h.2
theorem keep4 {W0 W : World} {b : Nat} {o : Nat} {v : Value} (z : b < W0.heap.size) (h : W0.cell? ⟨b,o,none⟩ = some v) (hb : Below W0.heap.size W0 W) : W.cell? ⟨b,o,none⟩ = some v /\ Below W0.heap.size W0 W:=⟨(World.cell?_of_block (hb.block b z)).trans h,hb⟩
end Go.Proofs.YtkfafknliihabaaDoor
namespace Go.Proofs.YtkfafknliihabaaDoor
open Go.RowKit
noncomputable def bodyFA : Go.Code:=(Tryd.f4.body).getD .skip
noncomputable def tFA : Go.Code:=match bodyFA with | .seq _ (.seq _ (.seq _ (.seq _ a))) => a | _ => .skip
theorem make_zeros (n : Nat) (hn : n <= 1048576) : ∀ w : World,(Instr.makeSlice 23 (.int .i64 (n : Int)) (.int .i64 (n : Int))).run Tryd.prog w = .ok (.slice (some ⟨w.heap.size,0,none⟩) n n) (w.alloc (.cells (madeCells #[.int .i64 0] n) 3)):=
 λ w => run_make_row' 23 3 (.int .i64 0) 8 Tryd.underlying23 info_int rfl .i64 .i64 n (by omega) (by omega) w
def wtV (f : Nat -> Nat) : Nat -> Value:=λ i => .int .i64 (f i : Int)
def mixW (j : Nat) (f g : Nat -> Nat) (i : Nat) : Nat:=if i < j then f i else g i
theorem wt_setCell {w : World} {gw n j x : Nat} {f g : Nat -> Nat} (h : w.rowIs gw 3 n (wtV (mixW j f g))) (e : (x : Int) = (f j : Nat)) : (w.setCell ⟨gw,j,none⟩ (.int .i64 (x : Int))).rowIs gw 3 n (wtV (mixW (j + 1) f g)):=
 (h.set j (.int .i64 (x : Int))).congr λ i hi => by
  unfold wtV mixW
  by_cases e1 : i = j
  ·subst e1
   rw [if_pos rfl,if_pos (Nat.lt_succ_self _),e]
  ·rw [if_neg e1]
   by_cases e2 : i < j
   ·rw [if_pos e2,if_pos (by omega)]
   ·rw [if_neg e2,if_neg (by omega)]
theorem cell_set_ne {w : World} {gw j : Nat} {v u : Value} {a : Addr} (hne : a.block ≠ gw) (h : w.cell? a = some u) : (w.setCell ⟨gw,j,none⟩ v).cell? a = some u:=
 (World.cell?_of_block (Below.heap_setCell _ _ _ _ hne)).trans h
theorem wt_setCell2 {w : World} {gw n j x : Nat} {u : Value} {f g : Nat -> Nat} (h : w.rowIs gw 3 n (wtV (mixW j f g))) (e : (x : Int) = (f j : Nat)) : ((w.setCell ⟨gw,j,none⟩ u).setCell ⟨gw,j,none⟩ (.int .i64 (x : Int))).rowIs gw 3 n (wtV (mixW (j + 1) f g)):=
 ((h.set j u).set j (.int .i64 (x : Int))).congr λ i hi => by
  unfold wtV mixW
  by_cases e1 : i = j
  ·subst e1
   rw [if_pos rfl,if_pos (Nat.lt_succ_self _),e]
  ·rw [if_neg e1,if_neg e1]
   by_cases e2 : i < j
   ·rw [if_pos e2,if_pos (by omega)]
   ·rw [if_neg e2,if_neg (by omega)]
theorem upto_le (ls : List Ln) (ts : List DeedD) (j : Nat) : (readyUpto j ls ts).length <= j:=by
 rw [upto_eq,List.length_map]
 exact Nat.le_trans (List.length_filter_le _ _) (by simp)
theorem svals_blk {w : World} {lo hi n c : Nat} {A : Option Addr} {F : List (Nat × List UInt8)} (h : Slc w lo hi 2 A n c (svals F)) {k : Nat} (hk : k < n) {b off : Nat} (hA : A = some ⟨b,off,none⟩) : b < w.heap.size:=by
 obtain ⟨b',off',p,e,z,_⟩:=svals_at h hk
 rw [hA] at e
 injection e with e
 injection e with e
 subst e
 exact z
theorem below_al' {w0 w : World} {B : Nat} (h : Below B w0 w) (hB : B <= w.heap.size) (o : Obj) : Below B w0 (w.alloc o):=h.trans ((below_al (Below.refl _ _) _).mono hB)
theorem row_lt1 {E s : Nat} {w : World} {base g n c : Nat} {xs : List Value} (h : w.ownsRow base E s (.slice (some ⟨g,0,none⟩) n c) n xs) : g < w.heap.size /\ base <= g:=by
 obtain ⟨h1,cs,h2,_⟩:=row_blk h
 exact ⟨blk_lt h2,h1⟩
section
variable {Q : Exit -> Go.Act -> World -> Prop} {w : World} {v0 u1 u9 u10 u11 u12 u13 u14 u15 u16 u17 u18 u19 u20 u21 u22 u23 u24 u25 u26 u27 u28 u29 u30 u31 u32 u33 u34 u35 u36 u37 u38 u39 u40 u41 u42 u43 u44 u45 u46 u47 u48 u49 u50 u51 u52 u53 u54 u55 u56 u57 u58 u59 u60 u61 u62 u63 u64 u65 u66 u67 u68 u69 u70 u71 u72 u73 u74 u75 u76 u77 u78 u79 u80 u81 u82 u83 u84 u85 u86 u87 u88 u89 u90 u91 u92 u93 u94 u95 u96 u97 u98 u99 u100 u101 u102 u103 u104 u105 u106 u107 u108 u109 u110 u111 u112 u113 u114 u115 u116 u117 u118 u119 u120 u121 u122 u123 u124 u125 u126 u127 u128 u129 u130 u131 u132 u133 u134 u135 u136 u137 u138 u139 u140 u141 u142 u143 u144 u145 u146 u147 u148 u149 u150 u151 u152 u153 u154 u155 u156 u157 u158 u159 u160 u161 u162 u163 u164 u165 u166 u167 u168 u169 u170 u171 u172 u173 u174 u175 u176 u177 u178 u179 u180 u181 u182 : Value} {A1 A2 A3 A : Option Addr} {n1 c1 n2 c2 n3 c3 n c lo1 hi1 lo2 hi2 lo3 hi3 lo hi : Nat} {rooms : List Int} {ds ts : List DeedD} {tn : Int} {F : List (Nat × List UInt8)} {t : Bool}
set_option maxHeartbeats 16000000 in
set_option maxRecDepth 100000 in
theorem wpFA (h1 : Slc w lo1 hi1 1 A1 n1 c1 (ints rooms)) (h2 : Slc w lo2 hi2 3 A2 n2 c2 (deeds ds)) (h3 : Slc w lo3 hi3 3 A3 n3 c3 (deeds ts)) (hn1 : n1 <= 10) (hn2 : n2 <= 20) (hn3 : n3 <= 20) (hT : TabW w) (hG : Slc w lo hi 2 A n c (svals F)) (hS : servedF rooms ds ts tn true = (F,t))
  (HQ : Hid (∀ (a' : Go.Act) (w' : World),a'.tmps.getD 2 undef = .bool true -> Q .ret a' w')) :
  Go.Code.wp Tryd.prog tFA Q ⟨#[v0,u1,.bool false,.slice A1 n1 c1,.slice A2 n2 c2,.slice A3 n3 c3,.int .i64 tn,.slice A n c,.bool t,u9,u10,u11,u12,u13,u14,u15,u16,u17,u18,u19,u20,u21,u22,u23,u24,u25,u26,u27,u28,u29,u30,u31,u32,u33,u34,u35,u36,u37,u38,u39,u40,u41,u42,u43,u44,u45,u46,u47,u48,u49,u50,u51,u52,u53,u54,u55,u56,u57,u58,u59,u60,u61,u62,u63,u64,u65,u66,u67,u68,u69,u70,u71,u72,u73,u74,u75,u76,u77,u78,u79,u80,u81,u82,u83,u84,u85,u86,u87,u88,u89,u90,u91,u92,u93,u94,u95,u96,u97,u98,u99,u100,u101,u102,u103,u104,u105,u106,u107,u108,u109,u110,u111,u112,u113,u114,u115,u116,u117,u118,u119,u120,u121,u122,u123,u124,u125,u126,u127,u128,u129,u130,u131,u132,u133,u134,u135,u136,u137,u138,u139,u140,u141,u142,u143,u144,u145,u146,u147,u148,u149,u150,u151,u152,u153,u154,u155,u156,u157,u158,u159,u160,u161,u162,u163,u164,u165,u166,u167,u168,u169,u170,u171,u172,u173,u174,u175,u176,u177,u178,u179,u180,u181,u182],[]⟩ w:=by
 have HT:=Lib.hid hT
 clear hT
 simp only [tFA,bodyFA,Tryd.f4,Option.getD_some]
 go_wp2_with fail
 refine (spec_ServeAround _ _ _ _ _ _ _ _ _ _ _ _ _ _ _ rooms ds ts tn _ h1 h2 h3 (by omega) (by omega) (by omega)).mono ?_
 rintro e w1 ⟨RA,Rn,Rc,rfl,R,b1⟩
 rw [hS] at R
 rw [hS]
 have hRs:=R.slc
 have hG1:=hG.below b1
 have l1:=svals_len hG
 have l2:=svals_len hRs
 obtain rfl : n = Rn:=by rw [<- l1]; exact l2
 clear l2 R
 replace h1:=h1.below b1
 replace h2:=h2.below b1
 replace h3:=h3.below b1
 have HT1:=Lib.hid (HT.out.below b1)
 cases t with
 | false =>
  clear h1 h2 h3 hG hG1 hRs
  go_wp2
  exact HQ.out _ _ rfl
 | true =>
  have hok : okS rooms ds ts tn = true:=by
   cases h : okS rooms ds ts tn with
   | true => rfl
   | false => unfold servedF at hS; rw [h] at hS; simp at hS
  have hF : F = serveF ts true tn.toNat (runF rooms ds).1 0:=by
   unfold servedF at hS; rw [hok] at hS; simp at hS; exact hS.symm
  have SP:=Lib.hid (hF ▸ srvPl (ar:=true) hok : SrvPl rooms ds ts true tn.toNat F)
  have htn : 0 <= tn /\ tn <= 40:=by
   unfold okS at hok; simp at hok; omega
  have hl2:=h2.deedLen
  have hl3:=h3.deedLen
  have HX:=Lib.hid (And.intro l1 (And.intro hl2 hl3))
  have hn40 : n <= 40:=by have:=SP.out.len; omega
  have HS:=Lib.hid (And.intro h1 (And.intro h2 (And.intro h3 (And.intro hG1 hRs))))
  obtain ⟨i0,hi0,hz0,hz1,hz2⟩:=info_parts info_deed
  have HI:=Lib.hid (And.intro hi0 (And.intro hz0 (And.intro hz1 hz2)))
  clear h1 h3 hG hG1 hRs hS hok hF hi0 hz0 hz1 hz2 l1 hl2 hl3 b1
  obtain ⟨hi0,hz0,hz1,hz2⟩:=HI.out
  have HH:=Lib.hid hi0
  clear hi0
  have H2:=Lib.hid h2
  have HMK:=make_zeros n3 (by omega)
  clear h2
  go_wp2_with (at_builtin; refine wpList_apps _ rfl (.tmp 69) (.tmp 70) 24 rfl w1.heap.size 34 i0 (.agg #[.string ⟨#[]⟩,.int .i64 0,.int .i64 0]) 3 32 Tryd.underlying24 HH.out hz0 hz1 hz2 rfl (by decide) _ 0 0 [] rfl (row_empty ?c1 ?c2) A2 n2 c2 _ _ (deeds ds) rfl (H2.out.below ?c3) (deeds_cell _) ?c5 ?c6 ?c7 ?_; (case c1 => first | omega | (simp; done) | (simp; omega)); (case c2 => ((try with_reducible apply blk_drew); (first | with_reducible assumption | (with_reducible refine heap_new' _ _ ?_; simp) | (with_reducible refine blk_alloc ?_ _; first | with_reducible assumption | (with_reducible refine heap_new' _ _ ?_; simp)) | (with_reducible refine blk_alloc ?_ _; with_reducible refine blk_alloc ?_ _; first | with_reducible assumption | (with_reducible refine heap_new' _ _ ?_; simp)) | (with_reducible refine blk_alloc ?_ _; with_reducible refine blk_alloc ?_ _; with_reducible refine blk_alloc ?_ _; first | with_reducible assumption | (with_reducible refine heap_new' _ _ ?_; simp))))); (case c3 => (repeat' (first | with_reducible assumption | with_reducible exact Below.refl _ _ | with_reducible apply below_al | with_reducible apply below_drew))); (case c5 => unfold maxLen; omega); (case c6 => omega); (case c7 => first | omega | (simp; done) | (simp; omega)); intro g1 c1n w9 hown1 hgr1 B1; rw [Nat.zero_add]; simp only [Nat.zero_add,List.nil_append] at hown1; have HO1:=Lib.hid hown1; have HB1:=Lib.hid B1; clear hown1 hgr1 B1)
  clear hz0 hz1 hz2 HH HMK
  have hg1:=(row_lt1 HO1.out).1
  have HG1:=Lib.hid hg1
  have hw9 : w1.heap.size <= w9.heap.size:=by have:=(row_lt1 HO1.out).2; omega
  clear hg1
  go_loopw [11,12,14] (λ u l i wr => ∃ (k g cg : Nat),k <= n /\ n2 + k <= 60 /\ i = .int .i64 k /\ l = .int .i64 (lastF true (-1) (F.take k)) /\ u = .slice (some ⟨g,0,none⟩) (n2 + k) cg /\ g ≠ w9.heap.size /\ wr.ownsRow w1.heap.size 34 3 (.slice (some ⟨g,0,none⟩) (n2 + k) cg) (n2 + k) (deeds (ds ++ (F.take k).map (entD ts))) /\ wr.rowIs w9.heap.size 3 n3 (wtV (waitK rooms ds ts F k)) /\ Below w1.heap.size w1 wr) (λ _ _ i _ => n - (intOf i).toNat)
  case atStart => exact ⟨0,g1,c1n,Nat.zero_le _,by omega,rfl,rfl,rfl,Nat.ne_of_lt HG1.out,row_keep (by simpa using HO1.out) (λ b hb => Below.heap_alloc _ _ b hb),(World.rowIs_made _ _ _ _).congr (λ i hi => rfl),below_al' ((below_al (Below.refl _ _) _).trans (HB1.out.mono (by simp))) hw9 _⟩
  case round =>
   obtain ⟨k,g,cg,hk,h60,rfl,rfl,rfl,hgw,hown,hwt,B⟩:=hrel
   have HO:=Lib.hid hown
   have HB:=Lib.hid B
   have HW:=Lib.hid hwt
   have HGW:=Lib.hid hgw
   have sB:=B.size
   clear hown B hwt hgw
   by_cases hlt : k < n
   ·obtain ⟨b,off,p,hA,z,hp,e1,e2⟩:=svals_at (HS.out.2.2.2.1.below HB.out) hlt
    obtain ⟨b',off',p',hA',z',hp',e1',e2'⟩:=svals_at (HS.out.2.2.2.2.below HB.out) hlt
    obtain rfl : p = p':=by rw [hp] at hp'; injection hp'
    have hbw : b < w1.heap.size:=svals_blk HS.out.2.2.2.1 hlt hA
    subst hA hA'
    obtain ⟨pe,pa⟩:=p
    have hpe:=SP.out.ent k _ hp
    have hp3 : pe < n3:=by have:=HX.out.2.2; have hpe : pe < ts.length:=hpe; omega
    have i0' : (0 : Int) <= (k : Int):=by omega
    have i1' : (k : Int) < (n : Int):=by omega
    have HP:=Lib.hid (And.intro hp hpe)
    have HBW:=Lib.hid hbw
    clear hp hp' hpe hbw
    generalize hLV : lastF true (-1) (F.take k) = lv
    have HLV:=Lib.hid hLV
    clear hLV
    simp only [] at e1 e2 e1' e2'
    go_wp2_with fail
    go_quiet (fail)
    by_cases hge : 60 <= n2 + k
    ·have hge' : (60 : Int) <= ((n2 + k : Nat) : Int):=by omega
     go_wp2
     done
    ·have hge' : ¬ (60 : Int) <= ((n2 + k : Nat) : Int):=by omega
     have HFI:=Lib.hid (show nextRF rooms (ds ++ (F.take k).map (entD ts)) ts lv = pe by rw [<- HLV.out]; exact SP.out.next (k:=k) (by have:=HX.out.2.1; omega) HP.out.1)
     have hDs:=row_slc HO.out (by decide)
     have HR:=Lib.hid (And.intro (HS.out.1.below HB.out) (And.intro hDs (And.intro (HS.out.2.2.1.below HB.out) (HT1.out.below HB.out))))
     clear hDs
     go_upto_region 18 with fail
     go_region_held3 (λ W => W.cell? ⟨b,off + k * 2,none⟩ = some (.int .i64 pe) /\ Below wr.heap.size wr W)
      ((refine keep4 z e1 ?_; (repeat' (first | with_reducible assumption | with_reducible exact held1b (by assumption) | with_reducible exact Below.refl _ _ | with_reducible apply below_al | with_reducible apply below_drew | with_reducible apply below_drewN)); done))
      (first
       | (go_at_call 16; refine (impl_NextReady _ _ _ _ _ _ _ _ _ _ _ _ _ _ _ rooms (ds ++ (F.take k).map (entD ts)) ts lv _ (HR.out.1.below (by (repeat' (first | with_reducible assumption | with_reducible exact held1b (by assumption) | with_reducible exact Below.refl _ _ | with_reducible apply below_al | with_reducible apply below_drew | with_reducible apply below_drewN)))) (HR.out.2.1.below (by (repeat' (first | with_reducible assumption | with_reducible exact held1b (by assumption) | with_reducible exact Below.refl _ _ | with_reducible apply below_al | with_reducible apply below_drew | with_reducible apply below_drewN)))) (HR.out.2.2.1.below (by (repeat' (first | with_reducible assumption | with_reducible exact held1b (by assumption) | with_reducible exact Below.refl _ _ | with_reducible apply below_al | with_reducible apply below_drew | with_reducible apply below_drewN)))) (by omega) (by omega) (by omega) (HR.out.2.2.2.below (by (repeat' (first | with_reducible assumption | with_reducible exact held1b (by assumption) | with_reducible exact Below.refl _ _ | with_reducible apply below_al | with_reducible apply below_drew | with_reducible apply below_drewN))))).mono ?_; rintro e w4 ⟨rfl,b4⟩; rw [HFI.out]; have BW : Below wr.heap.size wr w4:=below_step (by (repeat' (first | with_reducible assumption | with_reducible exact held1b (by assumption) | with_reducible exact Below.refl _ _ | with_reducible apply below_al | with_reducible apply below_drew | with_reducible apply below_drewN))) b4; clear b4))
     have HB4:=Lib.hid (show Below wr.heap.size wr w4 by
      have S1 : w4.cell? ⟨b,off + k * 2,none⟩ = some (.int .i64 pe) /\ Below wr.heap.size wr w4:=by assumption
      exact S1.2)
     have s4:=HB4.out.size
     have HR4:=Lib.hid (And.intro (HR.out.1.below HB4.out) (And.intro (HR.out.2.1.below HB4.out) (And.intro (HR.out.2.2.1.below HB4.out) (HR.out.2.2.2.below HB4.out))))
     go_wp2_with fail
     refine (impl_ReadyEntries _ _ _ _ _ _ _ _ _ _ _ _ _ _ _ rooms (ds ++ (F.take k).map (entD ts)) ts _ (HR4.out.1.below (by (repeat' (first | with_reducible assumption | with_reducible exact held1b (by assumption) | with_reducible exact Below.refl _ _ | with_reducible apply below_al | with_reducible apply below_drew | with_reducible apply below_drewN)))) (HR4.out.2.1.below (by (repeat' (first | with_reducible assumption | with_reducible exact held1b (by assumption) | with_reducible exact Below.refl _ _ | with_reducible apply below_al | with_reducible apply below_drew | with_reducible apply below_drewN)))) (HR4.out.2.2.1.below (by (repeat' (first | with_reducible assumption | with_reducible exact held1b (by assumption) | with_reducible exact Below.refl _ _ | with_reducible apply below_al | with_reducible apply below_drew | with_reducible apply below_drewN)))) (by omega) (by omega) (by omega) (HR4.out.2.2.2.below (by (repeat' (first | with_reducible assumption | with_reducible exact held1b (by assumption) | with_reducible exact Below.refl _ _ | with_reducible apply below_al | with_reducible apply below_drew | with_reducible apply below_drewN))))).mono ?_
     rintro e w5 ⟨RA5,Rn5,Rc5,rfl,R5,b5⟩
     have hb5 : Below w4.heap.size w4 w5:=below_step (by (repeat' (first | with_reducible assumption | with_reducible exact held1b (by assumption) | with_reducible exact Below.refl _ _ | with_reducible apply below_al | with_reducible apply below_drew | with_reducible apply below_drewN))) b5
     have hre:=SP.out.readyE (k:=k) (by have:=HX.out.2.1; omega)
     have hre1 : (readyEF rooms (ds ++ (F.take k).map (entD ts)) ts).1 = readyUpto ts.length (runF rooms (ds ++ (F.take k).map (entD ts))).1 ts:=by rw [hre]
     have hre2 : (readyEF rooms (ds ++ (F.take k).map (entD ts)) ts).2 = true:=by rw [hre]
     rw [hre1] at R5
     rw [hre2]
     clear hre hre1 hre2
     generalize hLSe : (runF rooms (ds ++ (F.take k).map (entD ts))).1 = LS at R5
     have HLSE:=Lib.hid hLSe
     have HB5:=Lib.hid (below_step HB4.out hb5)
     have s5:=HB5.out.size
     have s45:=hb5.size
     have hlen5:=R5.slc.length
     have HR5:=Lib.hid R5
     have HN5:=Lib.hid (show (readyUpto ts.length LS ts).length = Rn5 by simpa [ints] using hlen5)
     have hn5 : Rn5 <= 8:=by rw [<- HN5.out]; exact Nat.le_trans (upto_le _ _ _) (table_of SP.out.tab).2.2
     clear R5 hlen5 b5 hb5 hLSe
     have hgs : w9.heap.size < wr.heap.size:=HW.out.lt
     have HW5:=Lib.hid (HW.out.of_block (HB5.out.block _ hgs))
     have HE:=Lib.hid e1
     clear e1 e2 e1' e2'
     go_wp2
     go_loopw [17,18] (λ q i wx => ∃ (j : Nat),j <= n3 /\ i = .int .i64 j /\ q = .int .i64 ((readyUpto j LS ts).length : Nat) /\ wx.rowIs w9.heap.size 3 n3 (wtV (mixW j (waitK rooms ds ts F (k + 1)) (waitK rooms ds ts F k))) /\ Chg w9.heap.size (w9.heap.size + 1) w5 wx) (λ _ i _ => n3 - (intOf i).toNat)
     case atStart => exact ⟨0,Nat.zero_le _,rfl,by simp [upto_eq],HW5.out.congr (λ i hi => by unfold wtV mixW; rw [if_neg (Nat.not_lt_zero _)]),Chg.refl _ _ _⟩
     case round =>
      obtain ⟨j,hj,rfl,rfl,hwx,hcx⟩:=hrel
      have HWX:=Lib.hid hwx
      have HCX:=Lib.hid hcx
      clear hwx hcx
      by_cases hjl : j < n3
      ·have hu:=upto_at LS ts (j:=j) (n:=ts.length) (by have:=HX.out.2.2; omega)
       have HUL:=Lib.hid (upto_len_succ LS ts j)
       have hqj:=upto_le LS ts j
       have hwk1:=SP.out.wait (k + 1) (by have:=HX.out.1; omega) j (by have:=HX.out.2.2; omega)
       have hwk0:=SP.out.wait k (by have:=HX.out.1; omega) j (by have:=HX.out.2.2; omega)
       have hl3:=HX.out.2.2
       have hK1 : waitK rooms ds ts F (k + 1) j = (if j = pe then 0 else if rdyAt LS ts j then waitK rooms ds ts F k j + 1 else 0):=by
        have hg : (F.getD k (0,[])).1 = pe:=by rw [List.getD_eq_getElem?_getD,HP.out.1]; rfl
        show waitF _ _ _ j = _
        unfold waitF
        rw [hg,HLSE.out]
       have c1 : wr.cell? ⟨w9.heap.size,j,none⟩ = some (.int .i64 ((waitK rooms ds ts F k j : Nat) : Int)):=by
        have h:=HWX.out.cell hjl
        unfold wtV mixW at h
        rw [if_neg (Nat.lt_irrefl _)] at h
        exact h
       have HWX1:=HWX
       have hy1 : waitK rooms ds ts F (k + 1) j < n3:=by omega
       have hy0 : waitK rooms ds ts F k j < n3:=by omega
       generalize hyE : waitK rooms ds ts F k j = y at c1 hK1 hy0
       generalize hqE : (readyUpto j LS ts).length = q at hu hqj HUL ⊢
       have f1:=HWX.out.frozen j
       have e1x : wr.cell? ⟨b,off + k * 2,none⟩ = some (.int .i64 pe):=(World.cell?_of_block (HCX.out.block b (by omega) (by have:=HBW.out; omega))).trans ((World.cell?_of_block (HB5.out.block b z)).trans HE.out)
       have e1y : ∀ v,(wr.setCell ⟨w9.heap.size,j,none⟩ v).cell? ⟨b,off + k * 2,none⟩ = some (.int .i64 pe):=λ v => cell_set_ne (by have:=HBW.out; show b ≠ _; omega) e1x
       have HK:=Lib.hid (And.intro hK1 hy1)
       have HU:=Lib.hid hu
       have j0' : (0 : Int) <= (j : Int):=by omega
       have j1' : (j : Int) < (n3 : Int):=by omega
       have q0' : (0 : Int) <= (q : Int):=by omega
       clear hu hK1 hy1 hwk1 hwk0 hyE hqE hl3 HWX1
       cases hr : rdyAt LS ts j with
       | true =>
        have hx:=HU.out.1 hr
        have hql : q < Rn5:=by rw [<- HN5.out]; exact (List.getElem?_eq_some_iff.1 hx).1
        obtain ⟨br,offr,x,hA5,_,_,zr,hxk,hv⟩:=(HR5.out.slc.chg HCX.out (.inr (by omega))).cellAt hql
        obtain rfl : x = (j : Int):=by rw [hx] at hxk; injection hxk with hxk; exact hxk.symm
        subst hA5
        have q1' : (q : Int) < (Rn5 : Int):=by omega
        have HRD:=Lib.hid hr
        clear hx hxk hr
        have HY:=Lib.hid (show waitK rooms ds ts F (k + 1) j = (if j = pe then 0 else y + 1) by rw [HK.out.1,HRD.out]; rfl)
        have HY:=Lib.hid (show waitK rooms ds ts F (k + 1) j = (if j = pe then 0 else y + 1) by rw [HK.out.1,HRD.out]; rfl)
        by_cases hjp : j = pe
        ·have HZ:=Lib.hid (show ((0 : Nat) : Int) = (waitK rooms ds ts F (k + 1) j : Nat) by rw [HY.out,if_pos hjp])
         subst hjp
         go_wp2
         go_roundw
         case rel => exact ⟨j + 1,by omega,by go_num,by simp [HUL.out,HRD.out],wt_setCell2 HWX.out HZ.out,((HCX.out.setCell (Nat.le_refl _) (Nat.lt_succ_self _) _).setCell (Nat.le_refl _) (Nat.lt_succ_self _) _)⟩
         case measure => simp [intOf]; omega
        ·have hjp' : ¬ (j : Int) = (pe : Int):=by omega
         have HZ:=Lib.hid (show ((y + 1 : Nat) : Int) = (waitK rooms ds ts F (k + 1) j : Nat) by rw [HY.out,if_neg hjp])
         have hy1 : y + 1 < n3:=by have h:=HK.out.2; rw [HY.out,if_neg hjp] at h; exact h
         have hy1' : ¬ (n3 : Int) <= (y : Int) + 1:=by omega
         go_wp2
         go_roundw
         case rel => exact ⟨j + 1,by omega,by go_num,by simp [HUL.out,HRD.out],wt_setCell HWX.out HZ.out,(HCX.out.setCell (Nat.le_refl _) (Nat.lt_succ_self _) _)⟩
         case measure => simp [intOf]; omega
       | false =>
        have HRD:=Lib.hid hr
        have HZ:=Lib.hid (show ((0 : Nat) : Int) = (waitK rooms ds ts F (k + 1) j : Nat) by rw [HK.out.1,HRD.out]; split <;> rfl)
        have hno:=HU.out.2 hr
        have hn30 : ¬ (n3 : Int) <= 0:=by omega
        clear hr
        rcases hno with hno | ⟨x,hx,hjx⟩
        ·have hqn : ¬ (q : Int) < (Rn5 : Int):=by
          have:=List.getElem?_eq_none_iff.1 hno
          rw [HN5.out] at this; omega
         clear hno
         by_cases hjp : j = pe
         ·subst hjp
          go_wp2
          go_roundw
          case rel => exact ⟨j + 1,by omega,by go_num,by simp [HUL.out,HRD.out],wt_setCell2 HWX.out HZ.out,((HCX.out.setCell (Nat.le_refl _) (Nat.lt_succ_self _) _).setCell (Nat.le_refl _) (Nat.lt_succ_self _) _)⟩
          case measure => simp [intOf]; omega
         ·have hjp' : ¬ (j : Int) = (pe : Int):=by omega
          go_wp2
          go_roundw
          case rel => exact ⟨j + 1,by omega,by go_num,by simp [HUL.out,HRD.out],wt_setCell HWX.out HZ.out,(HCX.out.setCell (Nat.le_refl _) (Nat.lt_succ_self _) _)⟩
          case measure => simp [intOf]; omega
        ·have hql : q < Rn5:=by rw [<- HN5.out]; exact (List.getElem?_eq_some_iff.1 hx).1
         obtain ⟨br,offr,x',hA5,_,_,zr,hxk,hv⟩:=(HR5.out.slc.chg HCX.out (.inr (by omega))).cellAt hql
         obtain rfl : x' = x:=by rw [hx] at hxk; injection hxk with hxk; exact hxk.symm
         subst hA5
         have q1' : (q : Int) < (Rn5 : Int):=by omega
         have hxj : ¬ x' = (j : Int):=by omega
         clear hx hxk
         by_cases hjp : j = pe
         ·subst hjp
          go_wp2
          go_roundw
          case rel => exact ⟨j + 1,by omega,by go_num,by simp [HUL.out,HRD.out],wt_setCell2 HWX.out HZ.out,((HCX.out.setCell (Nat.le_refl _) (Nat.lt_succ_self _) _).setCell (Nat.le_refl _) (Nat.lt_succ_self _) _)⟩
          case measure => simp [intOf]; omega
         ·have hjp' : ¬ (j : Int) = (pe : Int):=by omega
          go_wp2
          go_roundw
          case rel => exact ⟨j + 1,by omega,by go_num,by simp [HUL.out,HRD.out],wt_setCell HWX.out HZ.out,(HCX.out.setCell (Nat.le_refl _) (Nat.lt_succ_self _) _)⟩
          case measure => simp [intOf]; omega
      ·have e : j = n3:=by omega
       subst e
       have HWF:=Lib.hid (show wr.rowIs w9.heap.size 3 j (wtV (waitK rooms ds ts F (k + 1))) from HWX.out.congr (λ i hi => by unfold wtV mixW; rw [if_pos hi]))
       have sx:=HCX.out.size
       have HBX:=Lib.hid (show Below w1.heap.size w1 wr from (HB.out.trans (HB5.out.mono sB)).trans (HCX.out.below hw9 (by omega)))
       have e1x : wr.cell? ⟨b,off + k * 2,none⟩ = some (.int .i64 pe):=(World.cell?_of_block (HCX.out.block b (by omega) (by have:=HBW.out; omega))).trans ((World.cell?_of_block (HB5.out.block b z)).trans HE.out)
       have hgl:=(row_lt1 HO.out).1
       have HROW:=Lib.hid (row_at (row_at HO.out (HB5.out.block g hgl)) (HCX.out.block g (by omega) (by have:=HGW.out; omega)))
       obtain ⟨bt,offt,d,hA3,_,_,zt,hd,t0,t1,t2⟩:=((HS.out.2.2.1).below HBX.out).deedAt hp3
       subst hA3
       have hdp : d = entD ts (pe,pa):=by
        unfold entD; rw [List.getD_eq_getElem?_getD,hd]; rfl
       have HDP:=Lib.hid hdp
       have q0 : (0 : Int) <= (pe : Int):=by omega
       have q1 : (pe : Int) < (j : Int):=by omega
       obtain ⟨hi0,hz0,hz1,hz2⟩:=HI.out
       have HH:=Lib.hid hi0
       clear hi0 hd hdp
       go_wp2_with (at_builtin; refine wpList_append_lies _ rfl (.tmp 164) (.tmp 169) 24 rfl w1.heap.size 34 i0 (.agg #[.string ⟨#[]⟩,.int .i64 0,.int .i64 0]) 3 32 Tryd.underlying24 HH.out hz0 hz1 hz2 rfl (by decide) (.slice (some ⟨g,0,none⟩) (n2 + k) cg) (n2 + k) _ rfl (row_keep HROW.out (λ b hb => Below.heap_alloc _ _ b hb)) ⟨_,0,none⟩ 1 1 [.string d.act,.int .i64 d.a,.int .i64 d.b] rfl rfl (World.news_of_block (cs:=#[.string d.act,.int .i64 d.a,.int .i64 d.b]) (heap_alloc_new _ _)) (by simp [Value.oneCell']) (by decide) (by unfold maxLen; omega) (by omega) (by simp; omega) _ rfl ?_; intro g2 c2n w8 hown2 hgr2 hat2 hlt2; have HO2:=Lib.hid (And.intro hown2 (And.intro hgr2 hat2)); clear hown2 hgr2 hat2 hlt2)
       have HB8:=Lib.hid (show Below w1.heap.size w1 w8 from HBX.out.trans (((below_al (Below.refl _ wr) _).mono (show w1.heap.size <= wr.heap.size by omega)).trans (row_below HROW.out HO2.out.2.1 (by simp; omega))))
       have HO3:=Lib.hid (show w8.ownsRow w1.heap.size 34 3 (.slice (some ⟨g2,0,none⟩) (n2 + k + 1) c2n) (n2 + k + 1) (deeds (ds ++ (F.take (k + 1)).map (entD ts))) by
        rw [deeds_snoc2 ds F ts HP.out.1,<- HDP.out]; exact HO2.out.1)
       have HNE:=Lib.hid (show g2 ≠ w9.heap.size by
        rcases HO2.out.2.2 with h | h
        ·simp [Value.ownBlock] at h; have:=HGW.out; omega
        ·have:=HWF.out.lt; simp at h; omega)
       have HW8:=Lib.hid ((HWF.out.alloc _).of_block (HO2.out.2.1.block _ (HWF.out.alloc _).lt (by have:=HGW.out; simp [Value.ownBlock]; omega)))
       have HLT:=Lib.hid (lastF_take HP.out.1)
       clear hz0 hz1 hz2 t0 t1 t2 e1x
       go_wp2
       go_roundw
       case rel => exact ⟨k + 1,g2,c2n,by omega,by omega,by go_num,by rw [HLT.out],rfl,HNE.out,HO3.out,HW8.out,HB8.out⟩
       case measure => simp [intOf]; omega
   ·have e : k = n:=by omega
    subst e
    have hDs:=row_slc HO.out (by decide)
    have HR:=Lib.hid (And.intro (HS.out.1.below HB.out) (And.intro hDs (And.intro (HS.out.2.2.1.below HB.out) (HT1.out.below HB.out))))
    clear hDs
    by_cases ht : ((k : Nat) : Int) = tn
    ·go_wp2_with fail
     exact HQ.out _ _ rfl
    ·have HFE:=Lib.hid (show nextRF rooms (ds ++ (F.take k).map (entD ts)) ts (lastF true (-1) (F.take k)) = -1 by
      have h:=SP.out.nextEnd (by have:=HX.out.2.1; have:=HX.out.1; omega) (by have:=HX.out.1; have:=SP.out.len; have:=htn.1; omega)
      rw [HX.out.1] at h; exact h)
     go_wp2_with (first | (go_at_call 16; refine (impl_NextReady _ _ _ _ _ _ _ _ _ _ _ _ _ _ _ rooms (ds ++ (F.take k).map (entD ts)) ts _ _ HR.out.1 HR.out.2.1 HR.out.2.2.1 (by omega) (by omega) (by omega) HR.out.2.2.2).mono ?_; rintro e w4 ⟨rfl,b4⟩; rw [HFE.out]))
     exact HQ.out _ _ rfl
end
end Go.Proofs.YtkfafknliihabaaDoor
namespace Go.Mt
open Go.Conc Go.Tt
theorem clean_ex : ∀ (n : Nat) (u : Value),SizeOf.sizeOf u < n -> ∃ u',Uni u' /\ (∀ (S : FuncId -> Prop) (K R : Pr) (v : Value),VR S K R u v -> VR S K R u' v) /\ (plainV u -> u' = u):=by
 intro n
 induction n with
 | zero => intro u h; omega
 | succ n ih =>
  intro u hu
  have pl : ∀ {x : Value},(∀ k m,x ≠ .int k m) -> (∀ s,x ≠ .string s) -> (∀ b,x ≠ .bool b) -> ∀ {y : Value},plainV x -> y = x:=λ h1 h2 h3 y hx => by
   rcases hx with ⟨k,m,e⟩ | ⟨s,e⟩ | ⟨b,e⟩
   ·exact absurd e (h1 _ _)
   ·exact absurd e (h2 _)
   ·exact absurd e (h3 _)
  have rows : ∀ xs : Array Value,SizeOf.sizeOf xs < n -> ∃ us : Array Value,us.size = xs.size /\ (∀ (i : Nat) (u : Value),us[i]? = some u -> Uni u) /\ ∀ (S : FuncId -> Prop) (K R : Pr) (i : Nat) (u x v : Value),us[i]? = some u -> xs[i]? = some x -> VR S K R x v -> VR S K R u v:=λ xs hx => by
   have hex : ∀ x,∃ u,x ∈ xs -> Uni u /\ ∀ (S : FuncId -> Prop) (K R : Pr) (v : Value),VR S K R x v -> VR S K R u v:=λ x => by
    by_cases hm : x ∈ xs
    ·obtain ⟨u,h1,h2,_⟩:=ih x (Nat.lt_trans (Array.sizeOf_lt_of_mem hm) hx)
     exact ⟨u,λ _ => ⟨h1,h2⟩⟩
    ·exact ⟨x,λ h => absurd h hm⟩
   refine ⟨xs.map λ x => (hex x).choose,by simp,λ i u h1 => ?_,λ S K R i u x v h1 h2 h3 => ?_⟩
   ·rw [Array.getElem?_map] at h1
    cases h2 : xs[i]? with
    | none => rw [h2] at h1; cases h1
    | some v =>
     rw [h2] at h1
     simp only [Option.map_some,Option.some.injEq] at h1
     subst h1
     exact ((hex v).choose_spec (Array.mem_of_getElem? h2)).1
   ·rw [Array.getElem?_map,h2] at h1
    simp only [Option.map_some,Option.some.injEq] at h1
    subst h1
    exact ((hex x).choose_spec (Array.mem_of_getElem? h2)).2 S K R v h3
  cases u with
  | bool b => exact ⟨_,.bool b,λ S K R v h => h,λ _ => rfl⟩
  | int k m => exact ⟨_,.int k m,λ S K R v h => h,λ _ => rfl⟩
  | string s => exact ⟨_,.string s,λ S K R v h => h,λ _ => rfl⟩
  | nilFunc => exact ⟨_,.nilFunc,λ S K R v h => h,λ _ => rfl⟩
  | nilIface => exact ⟨_,.nilIface,λ S K R v h => h,λ _ => rfl⟩
  | agg xs =>
   obtain ⟨us,h1,h3,h2⟩:=rows xs (by simp at hu; omega)
   refine ⟨.agg us,.agg h3,λ S K R v h => ?_,pl (λ _ _ h => by cases h) (λ _ h => by cases h) (λ _ h => by cases h)⟩
   cases h with
   | @agg _ xs' e hh =>
    refine .agg (h1.trans e) λ i a b ha hb => ?_
    have hi : i < xs.size:=by rw [e]; exact (Array.getElem?_eq_some_iff.1 hb).1
    exact h2 S K R i a xs[i] b ha (Array.getElem?_eq_getElem hi) (hh i _ _ (Array.getElem?_eq_getElem hi) hb)
  | tuple xs =>
   obtain ⟨us,h1,h3,h2⟩:=rows xs (by simp at hu; omega)
   refine ⟨.tuple us,.tuple h3,λ S K R v h => ?_,pl (λ _ _ h => by cases h) (λ _ h => by cases h) (λ _ h => by cases h)⟩
   cases h with
   | @tuple _ xs' e hh =>
    refine .tuple (h1.trans e) λ i a b ha hb => ?_
    have hi : i < xs.size:=by rw [e]; exact (Array.getElem?_eq_some_iff.1 hb).1
    exact h2 S K R i a xs[i] b ha (Array.getElem?_eq_getElem hi) (hh i _ _ (Array.getElem?_eq_getElem hi) hb)
  | _ => exact ⟨.nilFunc,.nilFunc,λ S K R v h => .junk (by cases h <;> exact True.intro),pl (λ _ _ h => by cases h) (λ _ h => by cases h) (λ _ h => by cases h)⟩
noncomputable def cl (u : Value) : Value:=(clean_ex (SizeOf.sizeOf u + 1) u (Nat.lt_succ_self _)).choose
theorem cl_spec (u : Value) : Uni (cl u) /\ (∀ (S : FuncId -> Prop) (K R : Pr) (v : Value),VR S K R u v -> VR S K R (cl u) v) /\ (plainV u -> cl u = u):=(clean_ex (SizeOf.sizeOf u + 1) u (Nat.lt_succ_self _)).choose_spec
noncomputable def clO : Obj -> Obj
 | .cells c T fz => .cells (c.map cl) T fz
 | o => o
noncomputable def clX (X : Nat -> Bool) (w : World) : World:={ w with heap:=w.heap.mapIdx λ i o => if X i = true then clO o else o }
theorem clX_size (X : Nat -> Bool) (w : World) : (clX X w).heap.size = w.heap.size:=by simp [clX]
section
variable {X : Nat -> Bool} {w : World} {a : Nat}
theorem clX_out (h : X a = false) : (clX X w).heap[a]? = w.heap[a]?:=by
 simp [clX,Array.getElem?_mapIdx,h]
theorem clX_in (h : X a = true) : (clX X w).heap[a]? = (w.heap[a]?).map clO:=by
 simp [clX,Array.getElem?_mapIdx,h]
theorem clX_cells {c : Array Value} {T : TypeId} {fz : Nat × Nat} (h : X a = true) (hc : w.heap[a]? = some (.cells c T fz)) : (clX X w).heap[a]? = some (.cells (c.map cl) T fz):=by
 rw [clX_in h,hc]; rfl
theorem clX_cell {o : Nat} {v : Value} (hv : w.cell? ⟨a,o,none⟩ = some v) (hp : plainV v) : (clX X w).cell? ⟨a,o,none⟩ = some v:=by
 cases e : X a with
 | false =>
  simp only [World.cell?] at hv ⊢
  rw [clX_out e]; exact hv
 | true =>
  cases ho : w.heap[a]? with
  | none => simp [World.cell?,ho] at hv
  | some ob =>
   cases ob with
   | cells c T fz =>
    have h2 : c[o]? = some v:=by
     have : w.cell? ⟨a,o,none⟩ = c[o]?:=by simp [World.cell?,ho]
     rw [<- this]; exact hv
    have h3 : (clX X w).cell? ⟨a,o,none⟩ = (c.map cl)[o]?:=by
     simp only [World.cell?]
     rw [clX_cells e ho]; rfl
    rw [h3,Array.getElem?_map,h2]
    simp only [Option.map_some,Option.some.injEq]
    exact (cl_spec v).2.2 hp
   | _ => simp [World.cell?,ho] at hv
end
section
variable {S : FuncId -> Prop} {K R : Pr} {G : Gp} {St : Nat -> Prop} {X : Nat -> Bool} {w W : World}
theorem clX_rel (h : WRel S K R G St w W) : WRel S K R G St (clX X w) W:=by
 refine ⟨h.inj,h.inj',λ a b x => by rw [clX_size]; exact h.lt a b x,h.low,by rw [clX_size]; exact h.gle,λ a b x => ?_,λ a b x hn => ?_,λ a x => ?_,?_,h.tb⟩
 ·obtain ⟨o,o',h1,h2,h3⟩:=h.cont a b x
  cases e : X a with
  | false => exact ⟨o,o',(clX_out e).trans h1,h2,h3⟩
  | true =>
   refine ⟨clO o,o',by rw [clX_in e,h1]; rfl,h2,?_⟩
   cases h3 with
   | @cells c c' T fz fz' hcc hf =>
    refine .cells ⟨by rw [Array.size_map]; exact hcc.1,λ i u v h4 h5 => ?_⟩ hf
    rw [Array.getElem?_map] at h4
    have hi : i < c.size:=by rw [hcc.1]; exact (Array.getElem?_eq_some_iff.1 h5).1
    rw [Array.getElem?_eq_getElem hi] at h4
    simp only [Option.map_some,Option.some.injEq] at h4
    subst h4
    exact (cl_spec _).2.1 _ _ _ _ (hcc.2 i _ _ (Array.getElem?_eq_getElem hi) h5)
   | map x => exact .map x
   | chan x => exact .chan x
   | stringIter s p => exact .stringIter s p
   | number x => exact .number x
   | mapIter x => exact .mapIter x
 ·have hw:=h.rest a b x hn
  cases e : X a with
  | false => exact (clX_out e).trans hw
  | true => rw [clX_in e,hw]; simp [clO,waste]
 ·obtain ⟨h1,c,T,hi,h2,h3⟩:=h.st a x
  cases e : X a with
  | false => exact ⟨h1,c,T,hi,(clX_out e).trans h2,h3⟩
  | true => exact ⟨h1,c.map cl,T,hi,clX_cells e h2,by rw [Array.size_map]; exact h3⟩
 ·intro a c e hp
  cases ex : X a with
  | false =>
   rw [clX_out ex] at hp
   exact h.np a c e hp
  | true =>
   rw [clX_in ex] at hp
   cases ho : w.heap[a]? with
   | none => rw [ho] at hp; cases hp
   | some ob =>
    rw [ho] at hp
    cases ob with
    | pending c' e' => exact h.np a c' e' ho
    | _ => simp [clO] at hp
end
section
variable {p : Program} {op gs fs : FuncId -> Bool} {St : Nat -> Prop} {W0 : World} {Post : Value -> World -> Prop}
theorem JO.clean (X : Nat -> Bool) {m : Fm} {ms : List Fm} {w : World} (h : JL p op gs fs St W0 Post m ms (clX X w)) : JL p op gs fs St W0 Post m ms w:=
 λ K R W m' ms' Shun a b c d k => h K R W m' ms' Shun (clX_rel a) b c d k
end
end Go.Mt
namespace Go.Proofs.YtkfafknliihabaaDoor
open Go.RowKit Go.Mt Go.Conc Go.Tt
def cleanX (A1 A2 A3 : Option Addr) (b : Nat) : Bool:=xArg A1 b || xArg A2 b || xArg A3 b
theorem slc_clean {X : Nat -> Bool} {w : World} {lo hi s n c : Nat} {A : Option Addr} {xs : List Value} (h : Slc w lo hi s A n c xs) (hp : ∀ v ∈ xs,plainV v) : Slc (clX X w) 0 (clX X w).heap.size s A n c xs:=
 ⟨h.len,h.le,h.cap,λ hn => by
  obtain ⟨b,off,e,e1,e2,e3,e4⟩:=h.at_ hn
  exact ⟨b,off,e,Nat.zero_le _,by rw [clX_size]; exact e3,by rw [clX_size]; exact e3,λ j v hv => clX_cell (e4 j v hv) (hp v (List.mem_of_getElem? hv))⟩⟩
theorem blkU_clean {X : Nat -> Bool} {w : World} {A : Option Addr} (h : ∀ a,A = some a -> ∃ cs T fz,w.heap[a.block]? = some (.cells cs T fz)) (hX : ∀ a,A = some a -> X a.block = true) : BlkU (clX X w) A:=by
 intro x hx
 obtain ⟨cs,T,fz,hc⟩:=h x hx
 refine ⟨_,T,fz,clX_cells (hX x hx) hc,λ v hv => ?_⟩
 obtain ⟨u,_,rfl⟩:=Array.mem_map.1 hv
 exact (cl_spec u).1
theorem tabU_clean {X : Nat -> Bool} {w : World} (h : TabU w) : TabU (clX X w):=by
 intro g hg
 obtain ⟨c,T,fz,hc,hu⟩:=h g hg
 cases e : X g with
 | false => exact ⟨c,T,fz,(clX_out e).trans hc,hu⟩
 | true =>
  refine ⟨_,T,fz,clX_cells e hc,λ v hv => ?_⟩
  obtain ⟨u,_,rfl⟩:=Array.mem_map.1 hv
  exact (cl_spec u).1
theorem cl_ints (zs : List Int) : ((zs.map λ z => Value.int .u64 z).toArray).map cl = (zs.map λ z => Value.int .u64 z).toArray:=by
 apply Array.ext'
 simp only [Array.toList_map,List.map_map]
 exact List.map_congr_left λ z _ => (cl_spec _).2.2 (.inl ⟨_,_,rfl⟩)
theorem tabW_clean {X : Nat -> Bool} {w : World} (h : TabW w) : TabW (clX X w):=by
 have e1 : Tryd.prog.globalNamed "internal/strconv.uint64pow10" = some 0:=by kernel_rfl
 unfold TabW Lib.TabIs at *
 obtain ⟨T,fz,hc⟩:=var_cells e1 h
 unfold World.var?
 rw [e1]
 cases e : X 0 with
 | false =>
  simp only [Option.bind_some,(clX_out e).trans hc]
 | true =>
  simp only [Option.bind_some,clX_cells e hc]
  exact congrArg some (cl_ints _)
theorem code_start {S : FuncId -> Prop} {X : Nat -> Bool} {W : World} {A : Option Addr} {n c : Nat} (hX : ∀ b,X b = true -> ∃ c T fz,W.heap[b]? = some (.cells c T fz)) (h : ∀ a,A = some a -> X a.block = true) (hc : Code W A n c) : Code (gStartX S X W) A n c:=
 ⟨hc.le,hc.cap,λ hn => by
  obtain ⟨b,off,rfl,e3,e4⟩:=hc.at_ hn
  exact ⟨b,off,rfl,by rw [gStartX_size]; exact e3,λ j hj => by obtain ⟨v,h1,h2,h3⟩:=e4 j hj; exact ⟨v,gStartX_cell hX (h _ rfl) h1 (.inl ⟨_,_,rfl⟩),h2,h3⟩⟩⟩
end Go.Proofs.YtkfafknliihabaaDoor
namespace Go.Proofs.YtkfafknliihabaaDoor
open Go.RowKit Go.Mt Go.Conc Go.Tt
noncomputable def rFA0 : Go.Code:=match bodyFA with | .seq a _ => a | _ => .skip
noncomputable def rFA1 : Go.Code:=match bodyFA with | .seq _ (.seq (.seq a _) _) => a | _ => .skip
noncomputable def rFA2 : Go.Code:=match bodyFA with | .seq _ (.seq (.seq _ (.cond _ (.seq a _) _)) _) => a | _ => .skip
noncomputable def rFA3 : Go.Code:=match bodyFA with | .seq _ (.seq _ (.seq a _)) => a | _ => .skip
noncomputable def rFA4 : Go.Code:=match bodyFA with | .seq _ (.seq _ (.seq _ (.seq a _))) => a | _ => .skip
theorem bodyFA_eq : bodyFA = .seq rFA0 (.seq (.seq rFA1 (.cond (.tmp 21) (.seq rFA2 .ret) .skip)) (.seq rFA3 (.seq rFA4 tFA))):=rfl
noncomputable def opsFA4 : Array Oper:=match rFA4 with | .region _ ops _ => ops | _ => #[]
theorem rFA4_eq : rFA4 = .region 4 opsFA4 false:=rfl
theorem opsFA4_range : List.range opsFA4.size = [0,1,2,3,4,5,6,7,8,9]:=rfl
abbrev oFA4_0 : Oper:={ dst:=some 30,op:=Go.Op.move (Go.Operand.tmp 3),type:=23,pos := "laws.go:873", after:=#[],guard:=none }
theorem opsFA4_0 : opsFA4[0]? = some oFA4_0:=rfl
abbrev oFA4_1 : Oper:={ dst:=some 31,op:=Go.Op.move (Go.Operand.tmp 4),type:=24,pos := "laws.go:873", after:=#[],guard:=none }
theorem opsFA4_1 : opsFA4[1]? = some oFA4_1:=rfl
abbrev oFA4_2 : Oper:={ dst:=some 32,op:=Go.Op.move (Go.Operand.tmp 5),type:=24,pos := "laws.go:873", after:=#[],guard:=none }
theorem opsFA4_2 : opsFA4[2]? = some oFA4_2:=rfl
abbrev oFA4_3 : Oper:={ dst:=some 33,op:=Go.Op.move (Go.Operand.tmp 6),type:=3,pos := "laws.go:873", after:=#[],guard:=none }
theorem opsFA4_3 : opsFA4[3]? = some oFA4_3:=rfl
abbrev oFA4_4 : Oper:={ dst:=some 34,op:=Go.Op.call { callee:=Go.Callee.value (Go.Operand.func 14),args:=#[Go.Operand.tmp 30,Go.Operand.tmp 31,Go.Operand.tmp 32,Go.Operand.tmp 33],argTypes:=#[23,24,24,3] },type:=28,pos := "laws.go:873", after:=#[{ on:=0,ground:=Go.Ground.data },{ on:=1,ground:=Go.Ground.data },{ on:=2,ground:=Go.Ground.data },{ on:=3,ground:=Go.Ground.data }],guard:=none }
theorem opsFA4_4 : opsFA4[4]? = some oFA4_4:=rfl
abbrev oFA4_5 : Oper:={ dst:=some 29,op:=Go.Op.move (Go.Operand.tmp 34),type:=28,pos := "laws.go:873", after:=#[{ on:=4,ground:=Go.Ground.data }],guard:=none }
theorem opsFA4_5 : opsFA4[5]? = some oFA4_5:=rfl
abbrev oFA4_6 : Oper:={ dst:=some 35,op:=Go.Op.extract (Go.Operand.tmp 29) 0,type:=27,pos := "laws.go:873", after:=#[{ on:=5,ground:=Go.Ground.data }],guard:=none }
theorem opsFA4_6 : opsFA4[6]? = some oFA4_6:=rfl
abbrev oFA4_7 : Oper:={ dst:=some 36,op:=Go.Op.extract (Go.Operand.tmp 29) 1,type:=4,pos := "laws.go:873", after:=#[{ on:=5,ground:=Go.Ground.data },{ on:=8,ground:=Go.Ground.gcOnly Go.Departure.lateStores }],guard:=none }
theorem opsFA4_7 : opsFA4[7]? = some oFA4_7:=rfl
abbrev oFA4_8 : Oper:={ dst:=some 7,op:=Go.Op.assign (Go.Operand.tmp 35),type:=27,pos := "laws.go:873", after:=#[{ on:=6,ground:=Go.Ground.data },{ on:=4,ground:=Go.Ground.chain },{ on:=0,ground:=Go.Ground.phase },{ on:=1,ground:=Go.Ground.phase },{ on:=2,ground:=Go.Ground.phase },{ on:=3,ground:=Go.Ground.phase },{ on:=4,ground:=Go.Ground.phase },{ on:=5,ground:=Go.Ground.phase },{ on:=6,ground:=Go.Ground.phase },{ on:=7,ground:=Go.Ground.textOnly Go.Departure.lateStores }],guard:=none }
theorem opsFA4_8 : opsFA4[8]? = some oFA4_8:=rfl
abbrev oFA4_9 : Oper:={ dst:=some 8,op:=Go.Op.assign (Go.Operand.tmp 36),type:=4,pos := "laws.go:873", after:=#[{ on:=7,ground:=Go.Ground.data },{ on:=8,ground:=Go.Ground.chain },{ on:=0,ground:=Go.Ground.phase },{ on:=1,ground:=Go.Ground.phase },{ on:=2,ground:=Go.Ground.phase },{ on:=3,ground:=Go.Ground.phase },{ on:=4,ground:=Go.Ground.phase },{ on:=5,ground:=Go.Ground.phase },{ on:=6,ground:=Go.Ground.phase },{ on:=7,ground:=Go.Ground.phase },{ on:=8,ground:=Go.Ground.phase }],guard:=none }
theorem opsFA4_9 : opsFA4[9]? = some oFA4_9:=rfl
section
variable {St : Nat -> Prop} {W0 : World} {Post : Value -> World -> Prop}
set_option maxHeartbeats 8000000 in
set_option maxRecDepth 100000 in
theorem jo_law_FA {w : World} {A : Option Addr} {n c : Nat} (hC : Code w A n c) (hT : TabW w) (hTU : TabU w) (hP : ∀ (R : Pr) (W : World),Kp W0 R St W -> Post (.bool true) W) :
  JS St W0 Post ⟨4,#[.slice A n c,undef,undef,undef,undef,undef,undef,undef,undef,undef,undef,undef,undef,undef,undef,undef,undef,undef,undef,undef,undef,undef,undef,undef,undef,undef,undef,undef,undef,undef,undef,undef,undef,undef,undef,undef,undef,undef,undef,undef,undef,undef,undef,undef,undef,undef,undef,undef,undef,undef,undef,undef,undef,undef,undef,undef,undef,undef,undef,undef,undef,undef,undef,undef,undef,undef,undef,undef,undef,undef,undef,undef,undef,undef,undef,undef,undef,undef,undef,undef,undef,undef,undef,undef,undef,undef,undef,undef,undef,undef,undef,undef,undef,undef,undef,undef,undef,undef,undef,undef,undef,undef,undef,undef,undef,undef,undef,undef,undef,undef,undef,undef,undef,undef,undef,undef,undef,undef,undef,undef,undef,undef,undef,undef,undef,undef,undef,undef,undef,undef,undef,undef,undef,undef,undef,undef,undef,undef,undef,undef,undef,undef,undef,undef,undef,undef,undef,undef,undef,undef,undef,undef,undef,undef,undef,undef,undef,undef,undef,undef,undef,undef,undef,undef,undef,undef,undef,undef,undef,undef,undef,undef,undef,undef,undef,undef,undef,undef,undef,undef,undef,undef,undef],[.code bodyFA],false⟩ [] w:=by
 have L:=lvF
 have hfo : inL olL 4 = false:=by kernel_rfl
 have hend : ∀ (tmps : Array Value) (td : List Item) (w' : World),tmps.getD 2 undef = .bool true -> JS St W0 Post ⟨4,tmps,td,true⟩ [] w':=by
  intro tmps td w' h6
  refine JO.fin L (t:=2) rfl Tryd.func4 rfl (by kernel_rfl) λ K R W v' hv hk => ?_
  have hv' : VR (SF fsF) K R (tmps.getD 2 undef) v':=hv
  rw [h6] at hv'
  cases hv'
  exact hP R W hk
 rw [bodyFA_eq]
 refine JO.seq L hfo ?_
 refine JO.pieceQ L (by kernel_rfl) hfo (λ Tp Q HQ => ?_)
 simp only [rFA0,bodyFA,Tryd.f4,Option.getD_some]
 replace hC : Code (Tt.tp w Tp 0) A n c:=⟨hC.le,hC.cap,hC.at_⟩
 replace hT : TabW (Tt.tp w Tp 0):=tabIs_heap rfl hT
 replace hTU : TabU (Tt.tp w Tp 0):=hTU
 generalize Tt.tp w Tp 0 = w1 at hC hT hTU ⊢
 go_wp2
 refine HQ.out _ _ ?_
 clear HQ
 refine JO.seq L hfo ?_
 refine JO.seq L hfo ?_
 refine JO.pieceQ L (by kernel_rfl) hfo (λ Tp Q HQ => ?_)
 simp only [rFA1,bodyFA,Tryd.f4,Option.getD_some]
 replace hC : Code (Tt.tp w1 Tp 0) A n c:=⟨hC.le,hC.cap,hC.at_⟩
 replace hT : TabW (Tt.tp w1 Tp 0):=tabIs_heap rfl hT
 replace hTU : TabU (Tt.tp w1 Tp 0):=hTU
 generalize Tt.tp w1 Tp 0 = w2 at hC hT hTU ⊢
 have hcl:=hC.le
 have hcm:=hC.cap
 unfold maxLen at hcm
 go_wp2
 refine HQ.out _ _ ?_
 clear HQ
 by_cases hbig : (1048576 : Int) < (n : Int)
 ·refine JO.cond L (t:=true) hfo (by show Value.bool (decide _) = _; rw [decide_eq_true hbig]) ?_
  refine JO.seq L hfo ?_
  refine JO.pieceQ L (by kernel_rfl) hfo (λ Tp Q HQ => ?_)
  simp only [rFA2,bodyFA,Tryd.f4,Option.getD_some]
  go_wp2
  refine HQ.out _ _ ?_
  refine JO.ret L hfo ?_
  exact hend _ _ _ rfl
 refine JO.cond L (t:=false) hfo (by show Value.bool (decide _) = _; rw [decide_eq_false hbig]) ?_
 refine JO.skip L hfo ?_
 refine JO.seq L hfo ?_
 refine JO.pieceQ L (by kernel_rfl) hfo (λ Tp Q HQ => ?_)
 simp only [rFA3,bodyFA,Tryd.f4,Option.getD_some]
 replace hC : Code (Tt.tp w2 Tp 0) A n c:=⟨hC.le,hC.cap,hC.at_⟩
 replace hT : TabW (Tt.tp w2 Tp 0):=tabIs_heap rfl hT
 replace hTU : TabU (Tt.tp w2 Tp 0):=hTU
 generalize Tt.tp w2 Tp 0 = w3 at hC hT hTU ⊢
 go_wp2_with fail
 refine (DrawServeAround_any A n c _ hC).mono ?_
 rintro e w4 ⟨A1,n1,c1,rooms,A2,n2,c2,ds,A3,n3,c3,ts,tn,rfl,o1,o2,o3,hn1,hn2,hn3,b4⟩
 have s4:=b4.size
 have B4 : Bl w3.heap.size w3 w4:=⟨b4.size,b4.block⟩
 replace hT:=hT.bls B4 (Nat.le_refl _)
 replace hTU:=hTU.bls B4 (Nat.le_refl _)
 clear B4 b4 hC
 go_wp2
 refine HQ.out _ _ ?_
 clear HQ
 refine JO.clean (cleanX A1 A2 A3) ?_
 replace hT:=tabW_clean (X:=cleanX A1 A2 A3) hT
 replace hTU:=tabU_clean (X:=cleanX A1 A2 A3) hTU
 have h1:=slc_clean (X:=cleanX A1 A2 A3) o1.slc ints_plain
 have h2:=slc_clean (X:=cleanX A1 A2 A3) o2.slc deeds_plain
 have h3:=slc_clean (X:=cleanX A1 A2 A3) o3.slc deeds_plain
 have hU1:=blkU_clean (X:=cleanX A1 A2 A3) (λ a e => (o1.blk0 a e).2.2.2) (λ a e => by simp [cleanX,xArg,e])
 have hU2:=blkU_clean (X:=cleanX A1 A2 A3) (λ a e => (o2.blk0 a e).2.2.2) (λ a e => by simp [cleanX,xArg,e])
 have hU3:=blkU_clean (X:=cleanX A1 A2 A3) (λ a e => (o3.blk0 a e).2.2.2) (λ a e => by simp [cleanX,xArg,e])
 clear o1 o2 o3 s4
 generalize clX (cleanX A1 A2 A3) w4 = w5 at *
 refine JO.seq L hfo ?_
 generalize hk0 : ([Item.code _] : List Item) = K0
 rw [rFA4_eq]
 refine JO.reg L hfo ?_
 rw [opsFA4_range]
 refine JO.opv L (v:=.slice A1 n1 c1) hfo opsFA4_0 rfl (λ T e => rfl) ?_
 simp only [Go.Act.put,List.setIfInBounds_toArray,List.set_cons_zero,List.set_cons_succ]
 refine JO.opv L (v:=.slice A2 n2 c2) hfo opsFA4_1 rfl (λ T e => rfl) ?_
 simp only [Go.Act.put,List.setIfInBounds_toArray,List.set_cons_zero,List.set_cons_succ]
 refine JO.opv L (v:=.slice A3 n3 c3) hfo opsFA4_2 rfl (λ T e => rfl) ?_
 simp only [Go.Act.put,List.setIfInBounds_toArray,List.set_cons_zero,List.set_cons_succ]
 refine JO.opv L (v:=.int .i64 tn) hfo opsFA4_3 rfl (λ T e => rfl) ?_
 simp only [Go.Act.put,List.setIfInBounds_toArray,List.set_cons_zero,List.set_cons_succ]
 refine jo_around (ops:=opsFA4) (i:=4) (o:=oFA4_4) (A1:=A1) (A2:=A2) (A3:=A3) (rooms:=rooms) (ds:=ds) (ts:=ts) (tn:=tn) rfl hfo rfl opsFA4_4 rfl rfl (by simp [Fm.eval]) h1 h2 h3 (by omega) (by omega) (by omega) hT hTU hU1 hU2 hU3 (λ w6 GA Gn Gc b6 G => ?_)
 have s6:=b6.size
 replace h1:=h1.bls b6 (Nat.le_refl _)
 replace h2:=h2.bls b6 (Nat.le_refl _)
 replace h3:=h3.bls b6 (Nat.le_refl _)
 replace hT:=hT.bls b6 (Nat.le_refl _)
 clear hU1 hU2 hU3 hTU
 simp only [Fm.fin,opsFA4_4,Option.bind_some,List.setIfInBounds_toArray,List.set_cons_zero,List.set_cons_succ]
 refine JO.opv L (v:=.tuple #[.slice GA Gn Gc,.bool (servedF rooms ds ts tn true).2]) hfo opsFA4_5 rfl (λ T e => rfl) ?_
 simp only [Go.Act.put,List.setIfInBounds_toArray,List.set_cons_zero,List.set_cons_succ]
 refine JO.opv L (v:=.slice GA Gn Gc) hfo opsFA4_6 rfl (λ T e => rfl) ?_
 simp only [Go.Act.put,List.setIfInBounds_toArray,List.set_cons_zero,List.set_cons_succ]
 refine JO.opv L (v:=.bool (servedF rooms ds ts tn true).2) hfo opsFA4_7 rfl (λ T e => rfl) ?_
 simp only [Go.Act.put,List.setIfInBounds_toArray,List.set_cons_zero,List.set_cons_succ]
 refine JO.opv L (v:=.slice GA Gn Gc) hfo opsFA4_8 rfl (λ T e => rfl) ?_
 simp only [Go.Act.put,List.setIfInBounds_toArray,List.set_cons_zero,List.set_cons_succ]
 refine JO.opv L (v:=.bool (servedF rooms ds ts tn true).2) hfo opsFA4_9 rfl (λ T e => rfl) ?_
 simp only [Go.Act.put,List.setIfInBounds_toArray,List.set_cons_zero,List.set_cons_succ]
 refine JO.regEnd L hfo ?_
 subst hk0
 refine JO.tailQ L (by kernel_rfl) hfo (λ Tp Q HQ => ?_)
 have h1':=h1.tp Tp 0
 have h2':=h2.tp Tp 0
 have h3':=h3.tp Tp 0
 have hT' : TabW (Tt.tp w6 Tp 0):=tabIs_heap rfl hT
 have G':=G.slc.tp Tp 0
 exact wpFA h1' h2' h3' hn1 hn2 hn3 hT' G' rfl (Lib.hid λ a' w' h2 => HQ.out _ _ λ todo => hend _ _ _ h2)
end
end Go.Proofs.YtkfafknliihabaaDoor
namespace Go.Proofs.YtkfafknliihabaaDoor
theorem holds_tied_goes (Lk : Looks) {p : Pinned} {s : OpenSpec} {c : OpenClaim} (kinds : List LaidKind) (tests : Bool) (har : Bool × String) (lk : Bool)
  (hc : c.holds p s) (hw : c.wfByText s = true) (htie : c.laidByTextAt Lk p kinds tests)
  (hst : c.start = .entering) (hnb : c.noBlocks = false /\ c.again = false) (hm : p.checked.prog.mainIs = some (har.1,har.2.toList)) (hn : (!har.1 && har.2.isEmpty && !lk) = false)
  (hl : ∀ f fn,p.checked.prog.funcNamed c.func = some f -> p.checked.prog.funcs[f]? = some fn -> lk = p.checked.prog.looks [] /\ ∀ (j : Nat) t,fn.params[j]? = some t -> p.checked.prog.wantsStandIn t = false)
  (hg : true = c.goesBy p.checked.prog) :
  Claim7.holds p (.plain s) { stood:={ row:=c,standIns:=[],harness:=har,looks:=lk },kinds:=[],alts:=[],goes:=true,laidByText:=true,laidKinds:=kinds,laidTests:=tests,laidLooks:=Lk }:=by
 have h6 : ∀ r : OpenClaim,Claim7.isSixth { stood:={ row:=r,standIns:=[],harness:=har,looks:=lk },kinds:=[] } = false:=λ r => by simpa [Claim7.isSixth] using hn
 have h:=Claim7.tied_new_at Lk kinds tests (Claim7.new_of_sixth hc har lk hst hnb hm (h6 c) hl) hw
 exact ⟨h,(λ D hD => by cases hD),htie,(λ h => by cases h),hg⟩
end Go.Proofs.YtkfafknliihabaaDoor
