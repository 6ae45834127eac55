/-
 Part 12 of what stands behind the last text.
-/
import Derived.ProofKit
import Derived.LaidMore
import Derived.Stop.Joined
import Derived.Test.YtkfafknliihabaaDoorRows
import Derived.Test.YtkfafknliihabaaDoorCards
import Derived.JoinedOf
import Derived.KernelRfl
import Derived.SevenTiedAt
import Derived.Test.YtkfafknliihabaaDoorServeAroundPq11
set_option linter.unusedSectionVars false
set_option linter.unusedSimpArgs false
set_option linter.unusedVariables false
namespace Go.Proofs.YtkfafknliihabaaDoor
open Go.RowKit Go.Mt Go.Conc Go.Tt
def servedF (rooms : List Int) (ds ts : List DeedD) (tn : Int) (ar : Bool) : List (Nat × List UInt8) × Bool := if okS rooms ds ts tn then (serveF ts ar tn.toNat (runF rooms ds).1 0, true) else ([], false)
noncomputable def bodySA : Go.Code := (Tryd.f14.body).getD .skip
noncomputable def rSA0 : Go.Code := match bodySA with | .seq a _ => a | _ => .skip
noncomputable def rSA1 : Go.Code := match bodySA with | .seq _ (.seq a _) => a | _ => .skip
theorem bodySA_eq : bodySA = .seq rSA0 (.seq rSA1 .ret) := rfl
noncomputable def opsSA1 : Array Oper := match rSA1 with | .region _ ops _ => ops | _ => #[]
theorem rSA1_eq : rSA1 = .region 1 opsSA1 false := rfl
theorem opsSA1_range : List.range opsSA1.size = [0, 1, 2, 3, 4, 5, 6, 7, 8] := rfl
abbrev oSA1_0 : Oper := { dst := some 10, op := Go.Op.move (Go.Operand.tmp 0), type := 23, pos := "l5_choosing.go:216", after := #[], guard := none }
theorem opsSA1_0 : opsSA1[0]? = some oSA1_0 := rfl
abbrev oSA1_1 : Oper := { dst := some 11, op := Go.Op.move (Go.Operand.tmp 1), type := 24, pos := "l5_choosing.go:216", after := #[], guard := none }
theorem opsSA1_1 : opsSA1[1]? = some oSA1_1 := rfl
abbrev oSA1_2 : Oper := { dst := some 12, op := Go.Op.move (Go.Operand.tmp 2), type := 24, pos := "l5_choosing.go:216", after := #[], guard := none }
theorem opsSA1_2 : opsSA1[2]? = some oSA1_2 := rfl
abbrev oSA1_3 : Oper := { dst := some 13, op := Go.Op.move (Go.Operand.tmp 3), type := 3, pos := "l5_choosing.go:216", after := #[], guard := none }
theorem opsSA1_3 : opsSA1[3]? = some oSA1_3 := rfl
abbrev oSA1_4 : Oper := { dst := some 14, op := Go.Op.call { callee := Go.Callee.value (Go.Operand.func 33), args := #[Go.Operand.tmp 10, Go.Operand.tmp 11, Go.Operand.tmp 12, Go.Operand.tmp 13, Go.Operand.const (Go.Value.bool true)], argTypes := #[23, 24, 24, 3, 4] }, type := 28, pos := "l5_choosing.go:216", after := #[{ on := 0, ground := Go.Ground.data }, { on := 1, ground := Go.Ground.data }, { on := 2, ground := Go.Ground.data }, { on := 3, ground := Go.Ground.data }], guard := none }
theorem opsSA1_4 : opsSA1[4]? = some oSA1_4 := rfl
abbrev oSA1_5 : Oper := { dst := some 15, op := Go.Op.extract (Go.Operand.tmp 14) 0, type := 27, pos := "l5_choosing.go:216", after := #[{ on := 4, ground := Go.Ground.data }], guard := none }
theorem opsSA1_5 : opsSA1[5]? = some oSA1_5 := rfl
abbrev oSA1_6 : Oper := { dst := some 16, op := Go.Op.extract (Go.Operand.tmp 14) 1, type := 4, pos := "l5_choosing.go:216", after := #[{ on := 4, ground := Go.Ground.data }], guard := none }
theorem opsSA1_6 : opsSA1[6]? = some oSA1_6 := rfl
abbrev oSA1_7 : Oper := { dst := some 8, op := Go.Op.assign (Go.Operand.tmp 15), type := 27, pos := "l5_choosing.go:216", after := #[{ on := 5, ground := Go.Ground.data }, { on := 4, ground := Go.Ground.chain }, { on := 0, ground := Go.Ground.phase }, { on := 1, ground := Go.Ground.phase }, { on := 2, ground := Go.Ground.phase }, { on := 3, ground := Go.Ground.phase }, { on := 4, ground := Go.Ground.phase }, { on := 5, ground := Go.Ground.phase }, { on := 6, ground := Go.Ground.phase }], guard := none }
theorem opsSA1_7 : opsSA1[7]? = some oSA1_7 := rfl
abbrev oSA1_8 : Oper := { dst := some 9, op := Go.Op.assign (Go.Operand.tmp 16), type := 4, pos := "l5_choosing.go:216", after := #[{ on := 6, ground := Go.Ground.data }, { on := 7, ground := Go.Ground.chain }, { on := 0, ground := Go.Ground.phase }, { on := 1, ground := Go.Ground.phase }, { on := 2, ground := Go.Ground.phase }, { on := 3, ground := Go.Ground.phase }, { on := 4, ground := Go.Ground.phase }, { on := 5, ground := Go.Ground.phase }, { on := 6, ground := Go.Ground.phase }, { on := 7, ground := Go.Ground.phase }], guard := none }
theorem opsSA1_8 : opsSA1[8]? = some oSA1_8 := rfl
section
variable {St : Nat -> Prop} {W0 : World} {Post : Value -> World -> Prop}
set_option maxHeartbeats 4000000 in
set_option maxRecDepth 100000 in
theorem jo_around {m : Fm} {ms : List Fm} {w : World} {ops : Array Oper} {i : Nat} {rest : List Nat} {k : List Item} {o : Oper} {args : Array Operand} {ats : Array TypeId} {A1 A2 A3 : Option Addr} {n1 c1 n2 c2 n3 c3 : Nat} {rooms : List Int} {ds ts : List DeedD} {tn : Int}
  (hr : m.ret = false) (hmf : inL olL m.fn = false) (htd : m.todo = .inRegion ops (i :: rest) :: k) (ho : ops[i]? = some o) (hwt : Region.wanted o (yielded ops m.tmps) = true) (hop : o.op = .call ⟨.value (.func 14), args, ats⟩)
  (hv : args.map m.eval = #[.slice A1 n1 c1, .slice A2 n2 c2, .slice A3 n3 c3, .int .i64 tn]) (h1 : Slc w 0 w.heap.size 1 A1 n1 c1 (ints rooms)) (h2 : Slc w 0 w.heap.size 3 A2 n2 c2 (deeds ds)) (h3 : Slc w 0 w.heap.size 3 A3 n3 c3 (deeds ts)) (hn1 : n1 <= 1048576) (hn2 : n2 <= 1048576) (hn3 : n3 <= 1048576)
  (hT : TabW w) (hTU : TabU w) (hU1 : BlkU w A1) (hU2 : BlkU w A2) (hU3 : BlkU w A3)
  (hJ : ∀ wn A n c, Bl w.heap.size w wn -> OwnV 31 2 wn w.heap.size wn.heap.size A n c (svals (servedF rooms ds ts tn true).1) -> JS St W0 Post (m.fin ops i rest k (.tuple #[.slice A n c, .bool (servedF rooms ds ts tn true).2])) ms wn) : JS St W0 Post m ms w := by
 have L := lvF
 have hfo : inL olL 14 = false := by kernel_rfl
 have hcn := JO.callN (St := St) (W0 := W0) (Post := Post) (ms := ms) (w := w) (fn := Tryd.f14) (c := bodySA) L hr htd ho hwt hop hfo
 refine hcn Tryd.func14 (by decide) rfl ?_
 rw [hv]
 have hent : (#[.slice A1 n1 c1, .slice A2 n2 c2, .slice A3 n3 c3, .int .i64 tn] : Array Value) ++ Array.replicate ((Tryd.f14).ntmps - (#[.slice A1 n1 c1, .slice A2 n2 c2, .slice A3 n3 c3, .int .i64 tn] : Array Value).size) undef = #[.slice A1 n1 c1, .slice A2 n2 c2, .slice A3 n3 c3, .int .i64 tn, undef, undef, undef, undef, undef, undef, undef, undef, undef, undef, undef, undef, undef] := by
  have e : (Tryd.f14).ntmps = 17 := rfl
  rw [e]
  apply Array.ext'
  simp only [Array.toList_append, Array.toList_replicate, List.size_toArray, List.length_cons, List.length_nil]
  rfl
 rw [hent, bodySA_eq]
 have hback : ∀ (tmps : Array Value) (td : List Item) (A' : Option Addr) (n' c' : Nat) (w' : World), tmps.getD 8 undef = .slice A' n' c' -> tmps.getD 9 undef = .bool (servedF rooms ds ts tn true).2 -> Bl w.heap.size w w' -> OwnV 31 2 w' w.heap.size w'.heap.size A' n' c' (svals (servedF rooms ds ts tn true).1) -> JS St W0 Post ⟨14, tmps, td, true⟩ (m :: ms) w' := by
  intro tmps td A' n' c' w' e8 e9 hb hown
  refine JO.back L rfl htd Tryd.func14 (v := .tuple #[.slice A' n' c', .bool (servedF rooms ds ts tn true).2]) ?_ hmf (hJ w' A' n' c' hb hown)
  show (resS [.tmp 8, .tmp 9] tmps).run _ _ = _
  simp only [resS, resOne, e8, e9]
  rfl
 refine JO.seq L hfo ?_
 refine JO.pieceQ L (by kernel_rfl) hfo (λ Tp Q HQ => ?_)
 simp only [rSA0, bodySA, Tryd.f14, Option.getD_some]
 go_wp2
 refine HQ.out _ _ ?_
 clear HQ
 have B1 : Bl w.heap.size w (Tt.tp w Tp 0) := (Bl.refl _ w).tp Tp 0
 have hT1 : TabW (Tt.tp w Tp 0) := tabIs_heap rfl hT
 have hTU1 : TabU (Tt.tp w Tp 0) := hTU
 have hU11 : BlkU (Tt.tp w Tp 0) A1 := hU1
 have hU21 : BlkU (Tt.tp w Tp 0) A2 := hU2
 have hU31 : BlkU (Tt.tp w Tp 0) A3 := hU3
 have h11 := h1.bl B1
 have h21 := h2.bl B1
 have h31 := h3.bl B1
 have hz : (Tt.tp w Tp 0).heap.size = w.heap.size := rfl
 generalize Tt.tp w Tp 0 = w1 at B1 hT1 hTU1 hU11 hU21 hU31 h11 h21 h31 hz ⊢
 refine JO.seq L hfo ?_
 generalize hk0 : ([Item.code .ret] : List Item) = K0
 rw [rSA1_eq]
 refine JO.reg L hfo ?_
 rw [opsSA1_range]
 refine JO.opv L (v := .slice A1 n1 c1) hfo opsSA1_0 rfl (λ T e => rfl) ?_
 simp only [Go.Act.put, List.setIfInBounds_toArray, List.set_cons_zero, List.set_cons_succ]
 refine JO.opv L (v := .slice A2 n2 c2) hfo opsSA1_1 rfl (λ T e => rfl) ?_
 simp only [Go.Act.put, List.setIfInBounds_toArray, List.set_cons_zero, List.set_cons_succ]
 refine JO.opv L (v := .slice A3 n3 c3) hfo opsSA1_2 rfl (λ T e => rfl) ?_
 simp only [Go.Act.put, List.setIfInBounds_toArray, List.set_cons_zero, List.set_cons_succ]
 refine JO.opv L (v := .int .i64 tn) hfo opsSA1_3 rfl (λ T e => rfl) ?_
 simp only [Go.Act.put, List.setIfInBounds_toArray, List.set_cons_zero, List.set_cons_succ]
 have ext : ∀ (a b : Value) (W : World), (Instr.extract (.tuple #[a, b]) 0).run Tryd.prog W = .ok a W /\ (Instr.extract (.tuple #[a, b]) 1).run Tryd.prog W = .ok b W := λ a b W => ⟨by simp [Instr.extract, go_sem], by simp [Instr.extract, go_sem]⟩
 refine jo_serve (ops := opsSA1) (i := 4) (o := oSA1_4) (A1 := A1) (A2 := A2) (A3 := A3) (rooms := rooms) (ds := ds) (ts := ts) (tn := tn) (ar := true) rfl rfl opsSA1_4 rfl rfl (by kernel_rfl) (by simp [Fm.eval]) h11 h21 h31 hn1 hn2 hn3 hT1 hTU1 hU11 hU21 hU31 (λ hok wn hb => ?_) (λ hok wn A n c hs => ?_)
 ·simp only [Fm.fin, opsSA1_4, Option.bind_some, List.setIfInBounds_toArray, List.set_cons_zero, List.set_cons_succ]
  have hb' : Bl w.heap.size w wn := B1.trans ⟨hb.size, λ b hb' => hb.block b (by omega)⟩
  have hF : servedF rooms ds ts tn true = ([], false) := by unfold servedF; rw [hok]; rfl
  refine JO.opv L (v := .slice none 0 0) hfo opsSA1_5 rfl (λ T e => run_bv ((ext _ _ _).1)) ?_
  simp only [Go.Act.put, List.setIfInBounds_toArray, List.set_cons_zero, List.set_cons_succ]
  refine JO.opv L (v := .bool false) hfo opsSA1_6 rfl (λ T e => run_bv ((ext _ _ _).2)) ?_
  simp only [Go.Act.put, List.setIfInBounds_toArray, List.set_cons_zero, List.set_cons_succ]
  refine JO.opv L (v := .slice none 0 0) hfo opsSA1_7 rfl (λ T e => rfl) ?_
  simp only [Go.Act.put, List.setIfInBounds_toArray, List.set_cons_zero, List.set_cons_succ]
  refine JO.opv L (v := .bool false) hfo opsSA1_8 rfl (λ T e => rfl) ?_
  simp only [Go.Act.put, List.setIfInBounds_toArray, List.set_cons_zero, List.set_cons_succ]
  refine JO.regEnd L hfo ?_
  subst hk0
  refine JO.ret L hfo ?_
  exact hback _ _ none 0 0 _ rfl (by rw [hF]; rfl) hb' (by rw [hF]; exact OwnV.nil _ _ _)
 ·simp only [Fm.fin, opsSA1_4, Option.bind_some, List.setIfInBounds_toArray, List.set_cons_zero, List.set_cons_succ]
  have hb' : Bl w.heap.size w wn := B1.trans ⟨hs.below.size, λ b hb' => hs.below.block b (by omega)⟩
  have hF : servedF rooms ds ts tn true = (serveF ts true tn.toNat (runF rooms ds).1 0, true) := by unfold servedF; rw [hok]; rfl
  refine JO.opv L (v := .slice A n c) hfo opsSA1_5 rfl (λ T e => run_bv ((ext _ _ _).1)) ?_
  simp only [Go.Act.put, List.setIfInBounds_toArray, List.set_cons_zero, List.set_cons_succ]
  refine JO.opv L (v := .bool true) hfo opsSA1_6 rfl (λ T e => run_bv ((ext _ _ _).2)) ?_
  simp only [Go.Act.put, List.setIfInBounds_toArray, List.set_cons_zero, List.set_cons_succ]
  refine JO.opv L (v := .slice A n c) hfo opsSA1_7 rfl (λ T e => rfl) ?_
  simp only [Go.Act.put, List.setIfInBounds_toArray, List.set_cons_zero, List.set_cons_succ]
  refine JO.opv L (v := .bool true) hfo opsSA1_8 rfl (λ T e => rfl) ?_
  simp only [Go.Act.put, List.setIfInBounds_toArray, List.set_cons_zero, List.set_cons_succ]
  refine JO.regEnd L hfo ?_
  subst hk0
  refine JO.ret L hfo ?_
  exact hback _ _ A n c _ rfl (by rw [hF]; rfl) hb' (by rw [hF]; have := hs.own; rw [hz] at this; exact this)
end
end Go.Proofs.YtkfafknliihabaaDoor
namespace Go.Proofs.YtkfafknliihabaaDoor
open Go.RowKit Go.Conc
set_option maxHeartbeats 8000000 in
theorem spec_ServeAround (lo hi n c lo2 hi2 m c2 lo3 hi3 q c3 : Nat) (A A2 A3 : Option Addr) (rooms : List Int) (ds ts : List DeedD) (tn : Int) (w : World) (h : Slc w lo hi 1 A n c (ints rooms)) (h2 : Slc w lo2 hi2 3 A2 m c2 (deeds ds)) (h3 : Slc w lo3 hi3 3 A3 q c3 (deeds ts)) (hn : n <= 1048576) (hm : m <= 1048576) (hq : q <= 1048576) :
  Calls Tryd.prog 15 #[.slice A n c, .slice A2 m c2, .slice A3 q c3, .int .i64 tn] w (NewVB 31 2 w (svals (servedF rooms ds ts tn true).1) (servedF rooms ds ts tn true).2) := by
 cases hd : choiceB rooms ds ts with
 | false =>
  have hF : servedF rooms ds ts tn true = ([], false) := by unfold servedF okS; rw [hd]; rfl
  rw [hF]
  go_enter Tryd.func15, Tryd.ntmps15
  go_wp2_with (go_at_call 34; refine (spec_l5Valid _ _ _ _ _ _ _ _ _ _ _ _ _ _ _ rooms ds ts _ h h2 h3 hn hm hq).mono ?_; rintro e w1 ⟨rfl, b1⟩; rw [hd])
  go_ret2
  exact ⟨_, 0, 0, rfl, OwnV.empty _ _ _ _, below_al b1 _⟩
 | true =>
  obtain ⟨hdb, htb⟩ := choice_of hd
  obtain ⟨u, hu⟩ : ∃ u, u = inB tn 0 40 := ⟨_, rfl⟩
  have hok : okS rooms ds ts tn = u := by
   unfold okS; rw [hd, hu]; unfold inB
   by_cases a : 0 <= tn <;> by_cases b : tn <= 40 <;> simp [a, b]
  have HD := Lib.hid (And.intro hd (And.intro hdb htb))
  have HU := Lib.hid hu
  cases u with
  | false =>
   have hF : servedF rooms ds ts tn true = ([], false) := by unfold servedF; rw [hok]; rfl
   rw [hF]
   clear hF hd hdb htb hu hok
   go_enter Tryd.func15, Tryd.ntmps15
   go_wp2_with (first
    | (go_at_call 34; refine (spec_l5Valid _ _ _ _ _ _ _ _ _ _ _ _ _ _ _ rooms ds ts _ h h2 h3 hn hm hq).mono ?_; rintro e w1 ⟨rfl, b1⟩; rw [HD.out.1])
    | (go_at_call 35; refine (l1In_any _ _ _ _).mono ?_; rintro e w' ⟨rfl, rfl⟩; rw [<- HU.out]))
   go_ret2
   exact ⟨_, 0, 0, rfl, OwnV.empty _ _ _ _, below_al b1 _⟩
  | true =>
   have htn : 0 <= tn /\ tn <= 40 := by unfold inB at hu; simpa using hu.symm
   obtain ⟨k, rfl⟩ := Int.eq_ofNat_of_zero_le htn.1
   have hk : k <= 40 := by omega
   obtain ⟨⟨t1, t8⟩, hts⟩ := ent_of htb
   have hF : servedF rooms ds ts (k : Int) true = (refF ts true k (runF rooms ds).1 (-1), true) := by
    unfold servedF
    rw [hok]
    simp only [if_true, Int.toNat_natCast]
    rw [serve_ref (λ d hd => (hts d hd).2) (by omega) k _ _ 0 (-1) (LsS.refl _) (Nat.zero_le _) rfl]
   have hsm : RunSmall 60 ((runF rooms ds).1, []) := by
    obtain ⟨_, _, hd60, hp⟩ := deedsB_of hdb
    have hs := runF_small hp ds.length
    rw [List.take_length] at hs
    intro l hl
    have := hs l hl
    exact ⟨by omega, by omega, this.2.2⟩
   have HSM := Lib.hid hsm
   rw [hF]
   clear hF hd hdb htb hu hok hts t1 t8 hsm htn
   go_enter Tryd.func15, Tryd.ntmps15
   go_wp2_with (first
    | (go_at_call 34; refine (spec_l5Valid _ _ _ _ _ _ _ _ _ _ _ _ _ _ _ rooms ds ts _ h h2 h3 hn hm hq).mono ?_; rintro e w1 ⟨rfl, b1⟩; rw [HD.out.1]; have h1 := h.below b1; have h21 := h2.below b1; have h31 := h3.below b1)
    | (go_at_call 35; refine (l1In_any _ _ _ _).mono ?_; rintro e w' ⟨rfl, rfl⟩; rw [<- HU.out])
    | (go_at_call 36; refine (l1Run_any _ _ _ _ _ _ _ _ _ _ rooms ds _ h1 h21 HD.out.2.1).mono ?_; rintro e w2 ⟨gl, cl, go, co, vs, rfl, St⟩; have HST := Lib.hid St; clear St)
    | (go_at_call 37; refine (spec_l5Serve (ar := true) (lines := (rooms.length : Int)) (told := (runF rooms ds).2) HST.out ?c1 HSM.out HD.out.2.2 (h31.old) hk).mono ?_; (case c1 => rfl); rintro e w3 ⟨g9, c9, rfl, o9, b9⟩))
   go_ret2
   have z1 := b1.size
   have z2 := HST.out.B.size
   obtain ⟨A', c', e', o⟩ := ownV_of_row o9 (by decide)
   injection e' with e1 e2 e3
   subst e1 e3
   exact ⟨_, _, _, rfl, o.from (by omega), b1.trans (b9.mono z1)⟩
end Go.Proofs.YtkfafknliihabaaDoor
namespace Go.Proofs.YtkfafknliihabaaDoor
open Go.RowKit Go.Mt Go.Conc Go.Tt
section
variable {p : Program} {op gs gs₁ fs : FuncId -> Bool} {St : Nat -> Prop} {W0 : World} {Post : Value -> World -> Prop}
theorem JO.callV (L : Lv p op gs gs₁ fs) {m : Fm} {ms : List Fm} {w : World} {ops : Array Oper} {i : Nat} {rest : List Nat} {k : List Item} {o : Oper} {f : FuncId} {args : Array Operand} {ats : Array TypeId} {xs : Array Value} (hr : m.ret = false) (htd : m.todo = .inRegion ops (i :: rest) :: k)
  (ho : ops[i]? = some o) (hwt : Region.wanted o (yielded ops m.tmps) = true) (hop : o.op = .call ⟨.value (.func f), args, ats⟩) (hg : gs₁ f = true) (hfn : op m.fn = false) (hargs : args.all (okX fs) = true) (hv : args.map m.eval = xs)
  {Q : Value -> World -> Prop} (hQt : ∀ v w T e, Q v w -> Q v (Tt.tp w T e)) (hc : ∀ T, Calls p f xs (Tt.tp w T 0) (λ e w' => ∃ v, e = .returned v /\ Q v w'))
  (hJ : ∀ v w', Q v w' -> JL p op gs fs St W0 Post (m.fin ops i rest k v) ms w') : JL p op gs fs St W0 Post m ms w :=
 JO.callL L hr htd ho hwt hop hg hfn hargs hQt (λ T => hv ▸ hc T) hJ
end
theorem blk_tp {w : World} {b : Nat} {o : Obj} (h : w.heap[b]? = some o) (T : Tape) (e : Nat) : (Tt.tp w T e).heap[b]? = some o := h
theorem blk_chg {w w' : World} {b lo hi : Nat} {o : Obj} (h : w.heap[b]? = some o) (k : Chg lo hi w w') (hd : b < lo \/ hi <= b) : w'.heap[b]? = some o := (k.block b (blk_lt h) (by omega)).trans h
def ToV (E : TypeId) (s : Nat) (l : List Value) (W : World) (n : Nat) (v : Value) (w' : World) : Prop :=
 ∃ b cs, v = .slice (some ⟨b, 0, none⟩) n n /\ W.heap.size <= b /\ w'.heap[b]? = some (.cells cs E) /\ cs.toList = l /\ OwnV E s w' W.heap.size w'.heap.size (some ⟨b, 0, none⟩) n n l /\ Bl W.heap.size W w'
theorem ToV.tp {E : TypeId} {s : Nat} {l : List Value} {W w : World} {n : Nat} {v : Value} (h : ToV E s l W n v w) (T : Tape) (e : Nat) : ToV E s l W n v (Tt.tp w T e) := by
 obtain ⟨b, cs, h1, h2, h3, h4, h5, h6⟩ := h
 exact ⟨b, cs, h1, h2, h3, h4, h5.tp T e, h6.tp T e⟩
theorem toInt_q {W : World} {lo hi n c : Nat} {A : Option Addr} {xs : List Int} (h : Slc W lo hi 1 A n c (ints xs)) (hn : n <= 1048576) (T : Tape) :
  Calls Tryd.prog 22 #[.slice A n c] (Tt.tp W T 0) λ e w' => ∃ v, e = .returned v /\ ToV 3 1 (ints xs) W n v w' := by
 refine (toInt_u (h.tp T 0) hn).mono ?_
 rintro e w' ⟨b, cs, he, h2, h3, h4, h5, h6⟩
 exact ⟨_, he, b, cs, rfl, h2, h3, h4, h5, ((Bl.refl _ W).tp T 0).below h6 (Nat.le_refl _)⟩
theorem toDeed_q {W : World} {lo hi n c : Nat} {A : Option Addr} {xs : List DeedD} (h : Slc W lo hi 3 A n c (deeds xs)) (hn : n <= 1048576) (T : Tape) :
  Calls Tryd.prog 23 #[.slice A n c] (Tt.tp W T 0) λ e w' => ∃ v, e = .returned v /\ ToV 34 3 (deeds xs) W n v w' := by
 refine (toDeed_u (h.tp T 0) hn).mono ?_
 rintro e w' ⟨b, cs, he, h2, h3, h4, h5, h6⟩
 exact ⟨_, he, b, cs, rfl, h2, h3, h4, h5, ((Bl.refl _ W).tp T 0).below h6 (Nat.le_refl _)⟩
theorem ints_plain {l : List Int} : ∀ v ∈ ints l, plainV v := by
 intro v hv
 obtain ⟨x, _, rfl⟩ := List.mem_map.1 hv
 exact .inl ⟨_, _, rfl⟩
theorem deeds_plain {l : List DeedD} : ∀ v ∈ deeds l, plainV v := by
 intro v hv
 obtain ⟨d, _, hd⟩ := List.mem_flatMap.1 hv
 simp only [DeedD.cells, List.mem_cons, List.not_mem_nil, or_false] at hd
 rcases hd with rfl | rfl | rfl
 all_goals first
  | exact .inl ⟨_, _, rfl⟩
  | exact .inr (.inl ⟨_, rfl⟩)
theorem blkU_mk {w : World} {b o : Nat} {cs : Array Value} {T : TypeId} {l : List Value} (h : w.heap[b]? = some (.cells cs T)) (e : cs.toList = l) (hp : ∀ v ∈ l, plainV v) : BlkU w (some ⟨b, o, none⟩) := by
 intro x hx
 cases hx
 exact ⟨cs, T, _, h, λ v hv => plain_uni (hp v (by rw [<- e]; simpa using hv))⟩
theorem TabW.bls {w w' : World} (h : TabW w) {B : Nat} (hb : Bl B w w') (hB : w.heap.size <= B) : TabW w' := by
 have hb' : Below w.heap.size w { w' with os := w.os, tape := w.tape, output := w.output } := ⟨rfl, rfl, rfl, hb.size, λ b hbb => hb.block b (by omega)⟩
 exact tabIs_heap (w := { w' with os := w.os, tape := w.tape, output := w.output }) rfl (h.below hb')
theorem TabU.bls {w w' : World} (h : TabU w) {B : Nat} (hb : Bl B w w') (hB : w.heap.size <= B) : TabU w' := by
 intro g hg
 obtain ⟨c, T, fz, hc, hu⟩ := h g hg
 exact ⟨c, T, fz, (hb.block g (by have := (Array.getElem?_eq_some_iff.1 hc).1; omega)).trans hc, hu⟩
theorem servedF_len (rooms : List Int) (ds ts : List DeedD) (tn : Int) (ar : Bool) : (svds (servedF rooms ds ts tn ar).1).length <= 1048576 := by
 rw [svds_len]
 unfold servedF
 by_cases h : okS rooms ds ts tn = true
 ·rw [if_pos h]
  unfold okS at h
  simp at h
  have := serveF_len (ts := ts) (around := ar) tn.toNat (runF rooms ds).1 0
  show (serveF ts ar tn.toNat (runF rooms ds).1 0).length <= 1048576
  omega
 ·rw [if_neg h]; exact Nat.zero_le _
end Go.Proofs.YtkfafknliihabaaDoor
namespace Go.Proofs.YtkfafknliihabaaDoor
open Go.ChangeShapes Go.WideShapes Go.ChangeAt Go.RowKit Go.Mt Go.Conc Go.Tt
def laidL : List (String × DataW Unit) := [("math/bits.deBruijn32tab", Rows.laid_math_bits_deBruijn32tab), ("math/bits.deBruijn64tab", Rows.laid_math_bits_deBruijn64tab), ("internal/strconv.uint64pow10", Rows.laid_internal_strconv_uint64pow10)]
set_option maxRecDepth 100000 in
theorem door_met (os : Os) (args : Array Value) : laidMetH Tryd.prog laidL ((World.doorLaid Tryd.prog 400 os).forCall (λ _ _ => 0) ⟨#[], args, []⟩).memory :=
 laidMetH_of_parts3 (fuel := 8) (laidMet_of_run' 8 (by kernel_rfl) (by kernel_rfl)) (by kernel_rfl) (by kernel_rfl)
theorem pow_eq : Rows.laid_internal_strconv_uint64pow10 (H := Unit) = Lib.tabData .u64 Lib.pow10Tab := by kernel_rfl
theorem of_laid {W : World} (h : laidMetH Tryd.prog laidL W) : TabW W := by
 rw [MakeChecks.laidMetH_plain _ _ _ (by kernel_rfl)] at h
 obtain ⟨ps, ⟨g0, t0, cs0, f0, p0, q0, hg0, ht0, hv0, hd0, ⟨g1, t1, cs1, f1, p1, q1, hg1, ht1, hv1, hd1, ⟨g2, t2, cs2, f2, p2, q2, hg2, ht2, hv2, hd2, _, _⟩, _⟩, _⟩, _⟩ := h
 have e1 : Tryd.prog.globalNamed "internal/strconv.uint64pow10" = some 0 := by kernel_rfl
 have e2 : (Tryd.prog.globals[0]?).map (·.type) = some 157 := by kernel_rfl
 obtain rfl := Option.some.inj (e1.symm.trans hg2)
 obtain rfl := Option.some.inj (e2.symm.trans ht2)
 rw [pow_eq] at hd2
 unfold TabW Lib.TabIs
 rw [hv2, <- Lib.cells_of_tab Tryd.underlying157 Tryd.underlying90 (by kernel_rfl) (by kernel_rfl) hd2]
theorem var_cells {W : World} {nm : String} {g : Nat} {cs : Array Value} (hg : Tryd.prog.globalNamed nm = some g) (h : W.var? Tryd.prog nm = some cs) : ∃ T fz, W.heap[g]? = some (.cells cs T fz) := by
 unfold World.var? at h
 rw [hg] at h
 simp only [Option.bind_some] at h
 split at h
 ·rename_i c T fz hb
  injection h with h
  subst h
  exact ⟨T, fz, hb⟩
 ·cases h
theorem tab_cases (g : Nat) (h : tabOk Tryd.prog g = true) : Tryd.prog.globalNamed "math/bits.deBruijn32tab" = some g \/ Tryd.prog.globalNamed "math/bits.deBruijn64tab" = some g \/ Tryd.prog.globalNamed "internal/strconv.uint64pow10" = some g := by
 have hall : ((List.range Tryd.prog.globals.size).all λ g => !(tabOk Tryd.prog g) || decide (Tryd.prog.globalNamed "math/bits.deBruijn32tab" = some g) || decide (Tryd.prog.globalNamed "math/bits.deBruijn64tab" = some g) || decide (Tryd.prog.globalNamed "internal/strconv.uint64pow10" = some g)) = true := by kernel_rfl
 have hlt : g < Tryd.prog.globals.size := by
  unfold tabOk at h
  cases e : Tryd.prog.globals[g]? with
  | none => rw [e] at h; cases h
  | some x => exact (Array.getElem?_eq_some_iff.1 e).1
 have := List.all_eq_true.1 hall g (List.mem_range.2 hlt)
 simp only [h, Bool.not_true, Bool.false_or, Bool.or_eq_true, decide_eq_true_eq] at this
 rcases this with (h | h) | h
 ·exact .inl h
 ·exact .inr (.inl h)
 ·exact .inr (.inr h)
theorem cells_of_laid {W : World} (h : laidMetH Tryd.prog laidL W) (g : Nat) (hg : tabOk Tryd.prog g = true) : ∃ c T fz, W.heap[g]? = some (.cells c T fz) := by
 rw [MakeChecks.laidMetH_plain _ _ _ (by kernel_rfl)] at h
 obtain ⟨ps, ⟨g0, t0, cs0, f0, p0, q0, hg0, ht0, hv0, hd0, ⟨g1, t1, cs1, f1, p1, q1, hg1, ht1, hv1, hd1, ⟨g2, t2, cs2, f2, p2, q2, hg2, ht2, hv2, hd2, _, _⟩, _⟩, _⟩, _⟩ := h
 rcases tab_cases g hg with e | e | e
 ·exact ⟨cs0, var_cells e hv0⟩
 ·exact ⟨cs1, var_cells e hv1⟩
 ·exact ⟨cs2, var_cells e hv2⟩
def xArg (A : Option Addr) (b : Nat) : Bool := match A with | some a => decide (a.block = b) | none => false
noncomputable def startX (A1 A2 A3 : Option Addr) (b : Nat) : Bool := tabOk Tryd.prog b || xArg A1 b || xArg A2 b || xArg A3 b
theorem xArg_some {A : Option Addr} {b : Nat} (h : xArg A b = true) : ∃ a, A = some a /\ a.block = b := by
 unfold xArg at h
 cases A with
 | none => cases h
 | some a => exact ⟨a, rfl, of_decide_eq_true h⟩
theorem startX_cells {W : World} {A1 A2 A3 : Option Addr} (hL : laidMetH Tryd.prog laidL W) (h1 : ∀ a, A1 = some a -> a.spot = none /\ ∃ c T fz, W.heap[a.block]? = some (.cells c T fz)) (h2 : ∀ a, A2 = some a -> a.spot = none /\ ∃ c T fz, W.heap[a.block]? = some (.cells c T fz)) (h3 : ∀ a, A3 = some a -> a.spot = none /\ ∃ c T fz, W.heap[a.block]? = some (.cells c T fz)) (b : Nat) (hb : startX A1 A2 A3 b = true) : ∃ c T fz, W.heap[b]? = some (.cells c T fz) := by
 unfold startX at hb
 simp only [Bool.or_eq_true] at hb
 rcases hb with ((hb | hb) | hb) | hb
 ·exact cells_of_laid hL b hb
 ·obtain ⟨a, e, rfl⟩ := xArg_some hb; exact (h1 a e).2
 ·obtain ⟨a, e, rfl⟩ := xArg_some hb; exact (h2 a e).2
 ·obtain ⟨a, e, rfl⟩ := xArg_some hb; exact (h3 a e).2
theorem oaR_start {X : Nat -> Bool} {A : Option Addr} (h : ∀ a, A = some a -> X a.block = true) : OaR (R0 X) A A := by
 cases A with
 | none => exact .none
 | some a =>
  have := h a rfl
  obtain ⟨bl, of, sp⟩ := a
  exact .some (.mk ⟨rfl, this⟩)
theorem slc_start {S : FuncId -> Prop} {X : Nat -> Bool} {W : World} {lo hi s n c : Nat} {A : Option Addr} {xs : List Value} (hX : ∀ b, X b = true -> ∃ c T fz, W.heap[b]? = some (.cells c T fz)) (h : ∀ a, A = some a -> X a.block = true) (hs : Slc W lo hi s A n c xs) (hp : ∀ v ∈ xs, plainV v) : Slc (gStartX S X W) 0 (gStartX S X W).heap.size s A n c xs :=
 ⟨hs.len, hs.le, hs.cap, λ hn => by
  obtain ⟨b, off, e, e1, e2, e3, e4⟩ := hs.at_ hn
  exact ⟨b, off, e, Nat.zero_le _, by rw [gStartX_size]; exact e3, by rw [gStartX_size]; exact e3, λ j v hv => gStartX_cell hX (h _ e) (e4 j v hv) (hp v (List.mem_of_getElem? hv))⟩⟩
theorem tabU_start {S : FuncId -> Prop} {X : Nat -> Bool} {W : World} (hX : ∀ b, X b = true -> ∃ c T fz, W.heap[b]? = some (.cells c T fz)) (hT : ∀ g, tabOk Tryd.prog g = true -> X g = true) : TabU (gStartX S X W) := by
 intro g hg
 obtain ⟨c, T, fz, hc⟩ := hX g (hT g hg)
 refine ⟨_, _, _, gStartX_in hc (hT g hg), λ v hv => ?_⟩
 obtain ⟨u, _, rfl⟩ := Array.mem_map.1 hv
 exact (gv_spec S u).1
theorem gv_ints (S : FuncId -> Prop) (zs : List Int) : ((zs.map λ z => Value.int .u64 z).toArray).map (gv S) = (zs.map λ z => Value.int .u64 z).toArray := by
 apply Array.ext'
 simp only [Array.toList_map, List.map_map]
 exact List.map_congr_left λ z _ => (gv_spec S _).2.2 (.inl ⟨_, _, rfl⟩)
theorem tabW_start {S : FuncId -> Prop} {X : Nat -> Bool} {W : World} (hX : ∀ b, X b = true -> ∃ c T fz, W.heap[b]? = some (.cells c T fz)) (hT : ∀ g, tabOk Tryd.prog g = true -> X g = true) (h : TabW W) : TabW (gStartX S X W) := by
 have e1 : Tryd.prog.globalNamed "internal/strconv.uint64pow10" = some 0 := by kernel_rfl
 have e2 : tabOk Tryd.prog 0 = true := by kernel_rfl
 unfold TabW Lib.TabIs at *
 obtain ⟨T, fz, hc⟩ := var_cells e1 h
 have hc' := gStartX_in (S := S) hc (hT _ e2)
 unfold World.var?
 rw [e1]
 simp only [Option.bind_some, hc']
 exact congrArg some (gv_ints S _)
end Go.Proofs.YtkfafknliihabaaDoor
namespace Go.Proofs.YtkfafknliihabaaDoor
theorem and_mk {a b : Bool} (h : a = true) (k : b = true) : (a && b) = true := by rw [h, k]; rfl
namespace Facts
theorem laidOut : laidOutB Tryd.pinned.checked.prog = true := by kernel_rfl
theorem mapsRowed : mapsRowed Tryd.pinned.checked.prog = true := by kernel_rfl
theorem stops : (Tryd.pinned.checked.prog.stops == []) = true := by kernel_rfl
theorem stopKnobs : (Tryd.pinned.checked.prog.stopKnobs == []) = true := by kernel_rfl
theorem plainKeys : (Rows.fnServeFirstRow.plainKeys == Tryd.pinned.checked.prog.plainKeys) = true := by kernel_rfl
theorem stopsHeard : Tryd.pinned.checked.prog.stopsHeard = true := by kernel_rfl
theorem mayEnter : Tryd.pinned.checked.prog.mayEnter = true := by kernel_rfl
theorem lifted : (Rows.fnServeFirstRow.lifted == Tryd.pinned.checked.prog.liftsFinal) = true := by kernel_rfl
theorem make : (Tryd.pinned.checked.prog.make == some Rows.fnServeFirstRow.make) = true := by kernel_rfl
theorem mainIs : Tryd.pinned.checked.prog.mainIs = some (Rows.fnServeFirstCard.stood.harness.1, Rows.fnServeFirstCard.stood.harness.2.toList) := by kernel_rfl
theorem looks : Rows.fnServeFirstCard.stood.looks = Tryd.pinned.checked.prog.looks [] := by kernel_rfl
end Facts
end Go.Proofs.YtkfafknliihabaaDoor
namespace Go.Proofs.YtkfafknliihabaaDoor
open Go.RowKit Go.Mt Go.Conc Go.Tt
noncomputable def bodyLA : Go.Code := (Tryd.f6.body).getD .skip
noncomputable def rLA0 : Go.Code := match bodyLA with | .seq (a) _ => a | _ => .skip
noncomputable def rLA1 : Go.Code := match bodyLA with | .seq _ (.seq (.seq (a) _) _) => a | _ => .skip
noncomputable def rLA2 : Go.Code := match bodyLA with | .seq _ (.seq (.seq _ (.cond _ (.seq (a) _) _)) _) => a | _ => .skip
noncomputable def rLA3 : Go.Code := match bodyLA with | .seq _ (.seq _ (.seq (a) _)) => a | _ => .skip
noncomputable def rLA4 : Go.Code := match bodyLA with | .seq _ (.seq _ (.seq _ (.seq (a) _))) => a | _ => .skip
noncomputable def rLA5 : Go.Code := match bodyLA with | .seq _ (.seq _ (.seq _ (.seq _ (.seq (.seq (a) _) _)))) => a | _ => .skip
noncomputable def rLA6 : Go.Code := match bodyLA with | .seq _ (.seq _ (.seq _ (.seq _ (.seq (.seq _ (.cond _ (.seq (a) _) _)) _)))) => a | _ => .skip
noncomputable def rLA7 : Go.Code := match bodyLA with | .seq _ (.seq _ (.seq _ (.seq _ (.seq _ (.seq (a) _))))) => a | _ => .skip
noncomputable def rLA8 : Go.Code := match bodyLA with | .seq _ (.seq _ (.seq _ (.seq _ (.seq _ (.seq _ (.seq (.seq (a) _) _)))))) => a | _ => .skip
noncomputable def rLA9 : Go.Code := match bodyLA with | .seq _ (.seq _ (.seq _ (.seq _ (.seq _ (.seq _ (.seq (.seq _ (.cond _ (.seq (a) _) _)) _)))))) => a | _ => .skip
noncomputable def rLA10 : Go.Code := match bodyLA with | .seq _ (.seq _ (.seq _ (.seq _ (.seq _ (.seq _ (.seq _ (.seq (a) _))))))) => a | _ => .skip
noncomputable def rLA11 : Go.Code := match bodyLA with | .seq _ (.seq _ (.seq _ (.seq _ (.seq _ (.seq _ (.seq _ (.seq _ (.seq (a) _)))))))) => a | _ => .skip
noncomputable def rLA12 : Go.Code := match bodyLA with | .seq _ (.seq _ (.seq _ (.seq _ (.seq _ (.seq _ (.seq _ (.seq _ (.seq _ (.seq (a) _))))))))) => a | _ => .skip
noncomputable def rLA13 : Go.Code := match bodyLA with | .seq _ (.seq _ (.seq _ (.seq _ (.seq _ (.seq _ (.seq _ (.seq _ (.seq _ (.seq _ (.seq (a) _)))))))))) => a | _ => .skip
noncomputable def rLA14 : Go.Code := match bodyLA with | .seq _ (.seq _ (.seq _ (.seq _ (.seq _ (.seq _ (.seq _ (.seq _ (.seq _ (.seq _ (.seq _ (.seq (a) _))))))))))) => a | _ => .skip
noncomputable def qLA15 : Go.Code := match bodyLA with | .seq _ (.seq _ (.seq _ (.seq _ (.seq _ (.seq _ (.seq _ (.seq _ (.seq _ (.seq _ (.seq _ (.seq _ (.seq (a) _)))))))))))) => a | _ => .skip
noncomputable def qLA17 : Go.Code := match bodyLA with | .seq _ (.seq _ (.seq _ (.seq _ (.seq _ (.seq _ (.seq _ (.seq _ (.seq _ (.seq _ (.seq _ (.seq _ (.seq _ (.seq (a) _))))))))))))) => a | _ => .skip
noncomputable def qLA19 : Go.Code := match bodyLA with | .seq _ (.seq _ (.seq _ (.seq _ (.seq _ (.seq _ (.seq _ (.seq _ (.seq _ (.seq _ (.seq _ (.seq _ (.seq _ (.seq _ (.seq (a) _)))))))))))))) => a | _ => .skip
noncomputable def qLA21 : Go.Code := match bodyLA with | .seq _ (.seq _ (.seq _ (.seq _ (.seq _ (.seq _ (.seq _ (.seq _ (.seq _ (.seq _ (.seq _ (.seq _ (.seq _ (.seq _ (.seq _ (.seq (a) _))))))))))))))) => a | _ => .skip
noncomputable def rLA23 : Go.Code := match bodyLA with | .seq _ (.seq _ (.seq _ (.seq _ (.seq _ (.seq _ (.seq _ (.seq _ (.seq _ (.seq _ (.seq _ (.seq _ (.seq _ (.seq _ (.seq _ (.seq _ (.seq (a) _)))))))))))))))) => a | _ => .skip
noncomputable def rLA24 : Go.Code := match bodyLA with | .seq _ (.seq _ (.seq _ (.seq _ (.seq _ (.seq _ (.seq _ (.seq _ (.seq _ (.seq _ (.seq _ (.seq _ (.seq _ (.seq _ (.seq _ (.seq _ (.seq _ (.seq (a) _))))))))))))))))) => a | _ => .skip
noncomputable def rLA25 : Go.Code := match bodyLA with | .seq _ (.seq _ (.seq _ (.seq _ (.seq _ (.seq _ (.seq _ (.seq _ (.seq _ (.seq _ (.seq _ (.seq _ (.seq _ (.seq _ (.seq _ (.seq _ (.seq _ (.seq _ (.seq (a) _)))))))))))))))))) => a | _ => .skip
noncomputable def rLA26 : Go.Code := match bodyLA with | .seq _ (.seq _ (.seq _ (.seq _ (.seq _ (.seq _ (.seq _ (.seq _ (.seq _ (.seq _ (.seq _ (.seq _ (.seq _ (.seq _ (.seq _ (.seq _ (.seq _ (.seq _ (.seq _ (.seq (a) _))))))))))))))))))) => a | _ => .skip
noncomputable def qLA27 : Go.Code := match bodyLA with | .seq _ (.seq _ (.seq _ (.seq _ (.seq _ (.seq _ (.seq _ (.seq _ (.seq _ (.seq _ (.seq _ (.seq _ (.seq _ (.seq _ (.seq _ (.seq _ (.seq _ (.seq _ (.seq _ (.seq _ (.seq (a) _)))))))))))))))))))) => a | _ => .skip
noncomputable def rLA29 : Go.Code := match bodyLA with | .seq _ (.seq _ (.seq _ (.seq _ (.seq _ (.seq _ (.seq _ (.seq _ (.seq _ (.seq _ (.seq _ (.seq _ (.seq _ (.seq _ (.seq _ (.seq _ (.seq _ (.seq _ (.seq _ (.seq _ (.seq _ (.seq (a) _))))))))))))))))))))) => a | _ => .skip
noncomputable def rLA30 : Go.Code := match bodyLA with | .seq _ (.seq _ (.seq _ (.seq _ (.seq _ (.seq _ (.seq _ (.seq _ (.seq _ (.seq _ (.seq _ (.seq _ (.seq _ (.seq _ (.seq _ (.seq _ (.seq _ (.seq _ (.seq _ (.seq _ (.seq _ (.seq _ (.seq (a) _)))))))))))))))))))))) => a | _ => .skip
noncomputable def rLA31 : Go.Code := match bodyLA with | .seq _ (.seq _ (.seq _ (.seq _ (.seq _ (.seq _ (.seq _ (.seq _ (.seq _ (.seq _ (.seq _ (.seq _ (.seq _ (.seq _ (.seq _ (.seq _ (.seq _ (.seq _ (.seq _ (.seq _ (.seq _ (.seq _ (.seq _ (.seq (a) _))))))))))))))))))))))) => a | _ => .skip
noncomputable def rLA32 : Go.Code := match bodyLA with | .seq _ (.seq _ (.seq _ (.seq _ (.seq _ (.seq _ (.seq _ (.seq _ (.seq _ (.seq _ (.seq _ (.seq _ (.seq _ (.seq _ (.seq _ (.seq _ (.seq _ (.seq _ (.seq _ (.seq _ (.seq _ (.seq _ (.seq _ (.seq _ (.seq (a) _)))))))))))))))))))))))) => a | _ => .skip
noncomputable def qLA33 : Go.Code := match bodyLA with | .seq _ (.seq _ (.seq _ (.seq _ (.seq _ (.seq _ (.seq _ (.seq _ (.seq _ (.seq _ (.seq _ (.seq _ (.seq _ (.seq _ (.seq _ (.seq _ (.seq _ (.seq _ (.seq _ (.seq _ (.seq _ (.seq _ (.seq _ (.seq _ (.seq _ (.seq (a) _))))))))))))))))))))))))) => a | _ => .skip
noncomputable def qLA35 : Go.Code := match bodyLA with | .seq _ (.seq _ (.seq _ (.seq _ (.seq _ (.seq _ (.seq _ (.seq _ (.seq _ (.seq _ (.seq _ (.seq _ (.seq _ (.seq _ (.seq _ (.seq _ (.seq _ (.seq _ (.seq _ (.seq _ (.seq _ (.seq _ (.seq _ (.seq _ (.seq _ (.seq _ (.seq (a) _)))))))))))))))))))))))))) => a | _ => .skip
noncomputable def rLA37 : Go.Code := match bodyLA with | .seq _ (.seq _ (.seq _ (.seq _ (.seq _ (.seq _ (.seq _ (.seq _ (.seq _ (.seq _ (.seq _ (.seq _ (.seq _ (.seq _ (.seq _ (.seq _ (.seq _ (.seq _ (.seq _ (.seq _ (.seq _ (.seq _ (.seq _ (.seq _ (.seq _ (.seq _ (.seq _ (.seq (a) _))))))))))))))))))))))))))) => a | _ => .skip
noncomputable def tLA : Go.Code := match bodyLA with | .seq _ (.seq _ (.seq _ (.seq _ (.seq _ (.seq _ (.seq _ (.seq _ (.seq _ (.seq _ (.seq _ (.seq _ (.seq _ (.seq _ (.seq _ (.seq _ (.seq _ (.seq _ (.seq _ (.seq _ (.seq _ (.seq _ (.seq _ (.seq _ (.seq _ (.seq _ (.seq _ (.seq _ (a)))))))))))))))))))))))))))) => a | _ => .skip
theorem bodyLA_eq : bodyLA = (.seq rLA0 (.seq (.seq rLA1 (.cond (.tmp 24) (.seq rLA2 .ret) .skip)) (.seq rLA3 (.seq rLA4 (.seq (.seq rLA5 (.cond (.tmp 29) (.seq rLA6 .ret) .skip)) (.seq rLA7 (.seq (.seq rLA8 (.cond (.tmp 34) (.seq rLA9 .ret) .skip)) (.seq rLA10 (.seq rLA11 (.seq rLA12 (.seq rLA13 (.seq rLA14 (.seq qLA15 (.seq qLA17 (.seq qLA19 (.seq qLA21 (.seq rLA23 (.seq rLA24 (.seq rLA25 (.seq rLA26 (.seq qLA27 (.seq rLA29 (.seq rLA30 (.seq rLA31 (.seq rLA32 (.seq qLA33 (.seq qLA35 (.seq rLA37 tLA)))))))))))))))))))))))))))) := rfl
noncomputable def opsLA14 : Array Oper := match rLA14 with | .region _ ops _ => ops | _ => #[]
theorem rLA14_eq : rLA14 = .region 14 opsLA14 false := rfl
theorem opsLA14_range : List.range opsLA14.size = [0, 1, 2, 3, 4, 5, 6, 7, 8, 9] := rfl
abbrev oLA14_0 : Oper := { dst := some 53, op := Go.Op.move (Go.Operand.tmp 12), type := 23, pos := "exact.go:2953", after := #[], guard := none }
theorem opsLA14_0 : opsLA14[0]? = some oLA14_0 := rfl
abbrev oLA14_1 : Oper := { dst := some 54, op := Go.Op.move (Go.Operand.tmp 13), type := 24, pos := "exact.go:2953", after := #[], guard := none }
theorem opsLA14_1 : opsLA14[1]? = some oLA14_1 := rfl
abbrev oLA14_2 : Oper := { dst := some 55, op := Go.Op.move (Go.Operand.tmp 14), type := 24, pos := "exact.go:2953", after := #[], guard := none }
theorem opsLA14_2 : opsLA14[2]? = some oLA14_2 := rfl
abbrev oLA14_3 : Oper := { dst := some 56, op := Go.Op.move (Go.Operand.tmp 3), type := 3, pos := "exact.go:2953", after := #[], guard := none }
theorem opsLA14_3 : opsLA14[3]? = some oLA14_3 := rfl
abbrev oLA14_4 : Oper := { dst := some 57, op := Go.Op.call { callee := Go.Callee.value (Go.Operand.func 14), args := #[Go.Operand.tmp 53, Go.Operand.tmp 54, Go.Operand.tmp 55, Go.Operand.tmp 56], argTypes := #[23, 24, 24, 3] }, type := 28, pos := "exact.go:2953", after := #[{ on := 0, ground := Go.Ground.data }, { on := 1, ground := Go.Ground.data }, { on := 2, ground := Go.Ground.data }, { on := 3, ground := Go.Ground.data }], guard := none }
theorem opsLA14_4 : opsLA14[4]? = some oLA14_4 := rfl
abbrev oLA14_5 : Oper := { dst := some 52, op := Go.Op.move (Go.Operand.tmp 57), type := 28, pos := "exact.go:2953", after := #[{ on := 4, ground := Go.Ground.data }], guard := none }
theorem opsLA14_5 : opsLA14[5]? = some oLA14_5 := rfl
abbrev oLA14_6 : Oper := { dst := some 58, op := Go.Op.extract (Go.Operand.tmp 52) 0, type := 27, pos := "exact.go:2953", after := #[{ on := 5, ground := Go.Ground.data }], guard := none }
theorem opsLA14_6 : opsLA14[6]? = some oLA14_6 := rfl
abbrev oLA14_7 : Oper := { dst := some 59, op := Go.Op.extract (Go.Operand.tmp 52) 1, type := 4, pos := "exact.go:2953", after := #[{ on := 5, ground := Go.Ground.data }, { on := 8, ground := Go.Ground.gcOnly Go.Departure.lateStores }], guard := none }
theorem opsLA14_7 : opsLA14[7]? = some oLA14_7 := rfl
abbrev oLA14_8 : Oper := { dst := some 15, op := Go.Op.assign (Go.Operand.tmp 58), type := 27, pos := "exact.go:2953", after := #[{ on := 6, ground := Go.Ground.data }, { on := 4, ground := Go.Ground.chain }, { on := 0, ground := Go.Ground.phase }, { on := 1, ground := Go.Ground.phase }, { on := 2, ground := Go.Ground.phase }, { on := 3, ground := Go.Ground.phase }, { on := 4, ground := Go.Ground.phase }, { on := 5, ground := Go.Ground.phase }, { on := 6, ground := Go.Ground.phase }, { on := 7, ground := Go.Ground.textOnly Go.Departure.lateStores }], guard := none }
theorem opsLA14_8 : opsLA14[8]? = some oLA14_8 := rfl
abbrev oLA14_9 : Oper := { dst := some 16, op := Go.Op.assign (Go.Operand.tmp 59), type := 4, pos := "exact.go:2953", after := #[{ on := 7, ground := Go.Ground.data }, { on := 8, ground := Go.Ground.chain }, { on := 0, ground := Go.Ground.phase }, { on := 1, ground := Go.Ground.phase }, { on := 2, ground := Go.Ground.phase }, { on := 3, ground := Go.Ground.phase }, { on := 4, ground := Go.Ground.phase }, { on := 5, ground := Go.Ground.phase }, { on := 6, ground := Go.Ground.phase }, { on := 7, ground := Go.Ground.phase }, { on := 8, ground := Go.Ground.phase }], guard := none }
theorem opsLA14_9 : opsLA14[9]? = some oLA14_9 := rfl
noncomputable def opsLA37 : Array Oper := match rLA37 with | .region _ ops _ => ops | _ => #[]
theorem rLA37_eq : rLA37 = .region 37 opsLA37 false := rfl
theorem opsLA37_range : List.range opsLA37.size = [0, 1, 2, 3, 4, 5, 6, 7, 8, 9, 10, 11, 12] := rfl
abbrev oLA37_0 : Oper := { dst := some 118, op := Go.Op.move (Go.Operand.tmp 0), type := 23, pos := "exact.go:2983", after := #[], guard := none }
theorem opsLA37_0 : opsLA37[0]? = some oLA37_0 := rfl
abbrev oLA37_1 : Oper := { dst := some 119, op := Go.Op.call { callee := Go.Callee.value (Go.Operand.func 22), args := #[Go.Operand.tmp 118], argTypes := #[23] }, type := 23, pos := "exact.go:2983", after := #[{ on := 0, ground := Go.Ground.data }], guard := none }
theorem opsLA37_1 : opsLA37[1]? = some oLA37_1 := rfl
abbrev oLA37_2 : Oper := { dst := some 120, op := Go.Op.move (Go.Operand.tmp 1), type := 47, pos := "exact.go:2983", after := #[], guard := none }
theorem opsLA37_2 : opsLA37[2]? = some oLA37_2 := rfl
abbrev oLA37_3 : Oper := { dst := some 121, op := Go.Op.call { callee := Go.Callee.value (Go.Operand.func 23), args := #[Go.Operand.tmp 120], argTypes := #[47] }, type := 24, pos := "exact.go:2983", after := #[{ on := 2, ground := Go.Ground.data }, { on := 1, ground := Go.Ground.chain }], guard := none }
theorem opsLA37_3 : opsLA37[3]? = some oLA37_3 := rfl
abbrev oLA37_4 : Oper := { dst := some 122, op := Go.Op.move (Go.Operand.tmp 2), type := 47, pos := "exact.go:2983", after := #[], guard := none }
theorem opsLA37_4 : opsLA37[4]? = some oLA37_4 := rfl
abbrev oLA37_5 : Oper := { dst := some 123, op := Go.Op.call { callee := Go.Callee.value (Go.Operand.func 23), args := #[Go.Operand.tmp 122], argTypes := #[47] }, type := 24, pos := "exact.go:2983", after := #[{ on := 4, ground := Go.Ground.data }, { on := 3, ground := Go.Ground.chain }], guard := none }
theorem opsLA37_5 : opsLA37[5]? = some oLA37_5 := rfl
abbrev oLA37_6 : Oper := { dst := some 124, op := Go.Op.move (Go.Operand.tmp 3), type := 3, pos := "exact.go:2983", after := #[], guard := none }
theorem opsLA37_6 : opsLA37[6]? = some oLA37_6 := rfl
abbrev oLA37_7 : Oper := { dst := some 125, op := Go.Op.call { callee := Go.Callee.value (Go.Operand.func 14), args := #[Go.Operand.tmp 119, Go.Operand.tmp 121, Go.Operand.tmp 123, Go.Operand.tmp 124], argTypes := #[23, 24, 24, 3] }, type := 28, pos := "exact.go:2983", after := #[{ on := 1, ground := Go.Ground.data }, { on := 3, ground := Go.Ground.data }, { on := 5, ground := Go.Ground.data }, { on := 6, ground := Go.Ground.data }, { on := 5, ground := Go.Ground.chain }], guard := none }
theorem opsLA37_7 : opsLA37[7]? = some oLA37_7 := rfl
abbrev oLA37_8 : Oper := { dst := some 117, op := Go.Op.move (Go.Operand.tmp 125), type := 28, pos := "exact.go:2983", after := #[{ on := 7, ground := Go.Ground.data }], guard := none }
theorem opsLA37_8 : opsLA37[8]? = some oLA37_8 := rfl
abbrev oLA37_9 : Oper := { dst := some 126, op := Go.Op.extract (Go.Operand.tmp 117) 0, type := 27, pos := "exact.go:2983", after := #[{ on := 8, ground := Go.Ground.data }], guard := none }
theorem opsLA37_9 : opsLA37[9]? = some oLA37_9 := rfl
abbrev oLA37_10 : Oper := { dst := some 127, op := Go.Op.extract (Go.Operand.tmp 117) 1, type := 4, pos := "exact.go:2983", after := #[{ on := 8, ground := Go.Ground.data }, { on := 11, ground := Go.Ground.gcOnly Go.Departure.lateStores }], guard := none }
theorem opsLA37_10 : opsLA37[10]? = some oLA37_10 := rfl
abbrev oLA37_11 : Oper := { dst := some 20, op := Go.Op.assign (Go.Operand.tmp 126), type := 27, pos := "exact.go:2983", after := #[{ on := 9, ground := Go.Ground.data }, { on := 7, ground := Go.Ground.chain }, { on := 0, ground := Go.Ground.phase }, { on := 1, ground := Go.Ground.phase }, { on := 2, ground := Go.Ground.phase }, { on := 3, ground := Go.Ground.phase }, { on := 4, ground := Go.Ground.phase }, { on := 5, ground := Go.Ground.phase }, { on := 6, ground := Go.Ground.phase }, { on := 7, ground := Go.Ground.phase }, { on := 8, ground := Go.Ground.phase }, { on := 9, ground := Go.Ground.phase }, { on := 10, ground := Go.Ground.textOnly Go.Departure.lateStores }], guard := none }
theorem opsLA37_11 : opsLA37[11]? = some oLA37_11 := rfl
abbrev oLA37_12 : Oper := { dst := some 21, op := Go.Op.assign (Go.Operand.tmp 127), type := 4, pos := "exact.go:2983", after := #[{ on := 10, ground := Go.Ground.data }, { on := 11, ground := Go.Ground.chain }, { on := 0, ground := Go.Ground.phase }, { on := 1, ground := Go.Ground.phase }, { on := 2, ground := Go.Ground.phase }, { on := 3, ground := Go.Ground.phase }, { on := 4, ground := Go.Ground.phase }, { on := 5, ground := Go.Ground.phase }, { on := 6, ground := Go.Ground.phase }, { on := 7, ground := Go.Ground.phase }, { on := 8, ground := Go.Ground.phase }, { on := 9, ground := Go.Ground.phase }, { on := 10, ground := Go.Ground.phase }, { on := 11, ground := Go.Ground.phase }], guard := none }
theorem opsLA37_12 : opsLA37[12]? = some oLA37_12 := rfl
section
variable {St : Nat -> Prop} {W0 : World} {Post : Value -> World -> Prop}
set_option maxHeartbeats 8000000 in
set_option maxRecDepth 100000 in
theorem jo_law_LA {w : World} {A1 A2 A3 : Option Addr} {n1 c1 n2 c2 n3 c3 : Nat} {rooms : List Int} {ds ts : List DeedD} {tn : Int} (h1 : Slc w 0 w.heap.size 1 A1 n1 c1 (ints rooms)) (h2 : Slc w 0 w.heap.size 3 A2 n2 c2 (deeds ds)) (h3 : Slc w 0 w.heap.size 3 A3 n3 c3 (deeds ts)) (hd2 : ∀ d ∈ ds, d.act.size <= maxLen) (hd3 : ∀ d ∈ ts, d.act.size <= maxLen) (hT : TabW w) (hTU : TabU w) (hP : ∀ (R : Pr) (W : World), Kp W0 R St W -> Post (.bool true) W) :
  JS St W0 Post ⟨6, #[.slice A1 n1 c1, .slice A2 n2 c2, .slice A3 n3 c3, .int .i64 tn, undef, undef, undef, undef, undef, undef, undef, undef, undef, undef, undef, undef, undef, undef, undef, undef, undef, undef, undef, undef, undef, undef, undef, undef, undef, undef, undef, undef, undef, undef, undef, undef, undef, undef, undef, undef, undef, undef, undef, undef, undef, undef, undef, undef, undef, undef, undef, undef, undef, undef, undef, undef, undef, undef, undef, undef, undef, undef, undef, undef, undef, undef, undef, undef, undef, undef, undef, undef, undef, undef, undef, undef, undef, undef, undef, undef, undef, undef, undef, undef, undef, undef, undef, undef, undef, undef, undef, undef, undef, undef, undef, undef, undef, undef, undef, undef, undef, undef, undef, undef, undef, undef, undef, undef, undef, undef, undef, undef, undef, undef, undef, undef, undef, undef, undef, undef, undef, undef, undef, undef, undef, undef, undef, undef, undef, undef, undef, undef, undef, undef, undef, undef, undef, undef, undef, undef, undef, undef, undef, undef, undef], [.code bodyLA], false⟩ [] w := by
 have L := lvF
 have hfo : inL olL 6 = false := by kernel_rfl
 have hend : ∀ (tmps : Array Value) (td : List Item) (w' : World), tmps.getD 8 undef = .bool true -> JS St W0 Post ⟨6, tmps, td, true⟩ [] w' := by
  intro tmps td w' h6
  refine JO.fin L (t := 8) rfl Tryd.func6 rfl (by kernel_rfl) λ K R W v' hv hk => ?_
  have hv' : VR (SF fsF) K R (tmps.getD 8 undef) v' := hv
  rw [h6] at hv'
  cases hv'
  exact hP R W hk
 have B := Bl.refl w.heap.size w
 have HX0 := Lib.hid (beq_self_eq_true (rooms))
 have HX1 := Lib.hid (beq_self_eq_true (ds))
 have HX2 := Lib.hid (beq_self_eq_true (ts))
 have HEQ := Lib.hid (beq_self_eq_true ((svds (servedF rooms ds ts tn true).1)))
 have HLEN := Lib.hid (show ((svds (servedF rooms ds ts tn true).1)).length <= 1048576 from servedF_len rooms ds ts tn true)
 rw [bodyLA_eq]
 refine JO.seq L hfo ?_
 refine JO.pieceQ L (by kernel_rfl) hfo (λ Tp Q HQ => ?_)
 simp only [rLA0, bodyLA, Tryd.f6, Option.getD_some]
 replace h1 := h1.tp Tp 0
 replace h2 := h2.tp Tp 0
 replace h3 := h3.tp Tp 0
 replace B := B.tp Tp 0
 have s1 : w.heap.size <= (Tt.tp w Tp 0).heap.size := Nat.le_refl _
 generalize Tt.tp w Tp 0 = w1 at B h1 h2 h3 s1 ⊢
 go_wp2
 refine HQ.out _ _ ?_
 clear HQ
 refine JO.seq L hfo ?_
 refine JO.seq L hfo ?_
 refine JO.pieceQ L (by kernel_rfl) hfo (λ Tp Q HQ => ?_)
 simp only [rLA1, bodyLA, Tryd.f6, Option.getD_some]
 replace h1 := h1.tp Tp 0
 replace h2 := h2.tp Tp 0
 replace h3 := h3.tp Tp 0
 replace B := B.tp Tp 0
 have s2 : w1.heap.size <= (Tt.tp w1 Tp 0).heap.size := Nat.le_refl _
 generalize Tt.tp w1 Tp 0 = w2 at B h1 h2 h3 s2 ⊢
 go_wp2
 refine HQ.out _ _ ?_
 clear HQ
 by_cases hneg1 : 1048576 < ((n1 : Int))
 ·refine JO.cond L (t := true) hfo (by show Value.bool (decide _) = _; rw [decide_eq_true hneg1]) ?_
  refine JO.seq L hfo ?_
  refine JO.pieceQ L (by kernel_rfl) hfo (λ Tp Q HQ => ?_)
  simp only [rLA2, bodyLA, Tryd.f6, Option.getD_some]
  go_wp2
  refine HQ.out _ _ ?_
  refine JO.ret L hfo ?_
  exact hend _ _ _ rfl
 refine JO.cond L (t := false) hfo (by show Value.bool (decide _) = _; rw [decide_eq_false hneg1]) ?_
 refine JO.skip L hfo ?_
 have l1 : n1 <= 1048576 := by omega
 refine JO.seq L hfo ?_
 refine JO.pieceQ L (by kernel_rfl) hfo (λ Tp Q HQ => ?_)
 simp only [rLA3, bodyLA, Tryd.f6, Option.getD_some]
 replace h1 := h1.tp Tp 0
 replace h2 := h2.tp Tp 0
 replace h3 := h3.tp Tp 0
 replace B := B.tp Tp 0
 have s3 : w2.heap.size <= (Tt.tp w2 Tp 0).heap.size := Nat.le_refl _
 generalize Tt.tp w2 Tp 0 = w3 at B h1 h2 h3 s3 ⊢
 go_wp2
 refine HQ.out _ _ ?_
 clear HQ
 refine JO.seq L hfo ?_
 refine JO.pieceQ L (by kernel_rfl) hfo (λ Tp Q HQ => ?_)
 simp only [rLA4, bodyLA, Tryd.f6, Option.getD_some]
 replace h1 := h1.tp Tp 0
 replace h2 := h2.tp Tp 0
 replace h3 := h3.tp Tp 0
 replace B := B.tp Tp 0
 have s4 : w3.heap.size <= (Tt.tp w3 Tp 0).heap.size := Nat.le_refl _
 generalize Tt.tp w3 Tp 0 = w4 at B h1 h2 h3 s4 ⊢
 have once5 : True := trivial
 go_wp2_with (go_at_call 21; clear once5; refine (szDeed_u (1048576) h2 hd2 (by omega) (by omega)).mono ?_; rintro e w5 ⟨rfl, b5⟩)
 have s5 := b5.size
 replace h1 := h1.below b5
 replace h2 := h2.below b5
 replace h3 := h3.below b5
 replace B := B.below' b5 (by omega)
 clear b5
 go_wp2
 refine HQ.out _ _ ?_
 clear HQ
 refine JO.seq L hfo ?_
 refine JO.seq L hfo ?_
 refine JO.pieceQ L (by kernel_rfl) hfo (λ Tp Q HQ => ?_)
 simp only [rLA5, bodyLA, Tryd.f6, Option.getD_some]
 replace h1 := h1.tp Tp 0
 replace h2 := h2.tp Tp 0
 replace h3 := h3.tp Tp 0
 replace B := B.tp Tp 0
 have s6 : w5.heap.size <= (Tt.tp w5 Tp 0).heap.size := Nat.le_refl _
 generalize Tt.tp w5 Tp 0 = w6 at B h1 h2 h3 s6 ⊢
 go_wp2
 refine HQ.out _ _ ?_
 clear HQ
 by_cases hneg5 : szDeedN (1048576) n2 ds < 0
 ·refine JO.cond L (t := true) hfo (by show Value.bool (decide _) = _; rw [decide_eq_true hneg5]) ?_
  refine JO.seq L hfo ?_
  refine JO.pieceQ L (by kernel_rfl) hfo (λ Tp Q HQ => ?_)
  simp only [rLA6, bodyLA, Tryd.f6, Option.getD_some]
  go_wp2
  refine HQ.out _ _ ?_
  refine JO.ret L hfo ?_
  exact hend _ _ _ rfl
 refine JO.cond L (t := false) hfo (by show Value.bool (decide _) = _; rw [decide_eq_false hneg5]) ?_
 refine JO.skip L hfo ?_
 have l2 : n2 <= 1048576 := (szDeedN_all (by omega : 0 <= szDeedN (1048576) n2 ds) (by omega)).1
 have hle5 : szDeedN (1048576) n2 ds <= 1048576 := Int.le_trans (szDeedN_le (by omega)) (by omega)
 refine JO.seq L hfo ?_
 refine JO.pieceQ L (by kernel_rfl) hfo (λ Tp Q HQ => ?_)
 simp only [rLA7, bodyLA, Tryd.f6, Option.getD_some]
 replace h1 := h1.tp Tp 0
 replace h2 := h2.tp Tp 0
 replace h3 := h3.tp Tp 0
 replace B := B.tp Tp 0
 have s7 : w6.heap.size <= (Tt.tp w6 Tp 0).heap.size := Nat.le_refl _
 generalize Tt.tp w6 Tp 0 = w7 at B h1 h2 h3 s7 ⊢
 have once8 : True := trivial
 go_wp2_with (go_at_call 21; clear once8; refine (szDeed_u (szDeedN (1048576) n2 ds) h3 hd3 (by omega) (by omega)).mono ?_; rintro e w8 ⟨rfl, b8⟩)
 have s8 := b8.size
 replace h1 := h1.below b8
 replace h2 := h2.below b8
 replace h3 := h3.below b8
 replace B := B.below' b8 (by omega)
 clear b8
 go_wp2
 refine HQ.out _ _ ?_
 clear HQ
 refine JO.seq L hfo ?_
 refine JO.seq L hfo ?_
 refine JO.pieceQ L (by kernel_rfl) hfo (λ Tp Q HQ => ?_)
 simp only [rLA8, bodyLA, Tryd.f6, Option.getD_some]
 replace h1 := h1.tp Tp 0
 replace h2 := h2.tp Tp 0
 replace h3 := h3.tp Tp 0
 replace B := B.tp Tp 0
 have s9 : w8.heap.size <= (Tt.tp w8 Tp 0).heap.size := Nat.le_refl _
 generalize Tt.tp w8 Tp 0 = w9 at B h1 h2 h3 s9 ⊢
 go_wp2
 refine HQ.out _ _ ?_
 clear HQ
 by_cases hneg8 : szDeedN (szDeedN (1048576) n2 ds) n3 ts < 0
 ·refine JO.cond L (t := true) hfo (by show Value.bool (decide _) = _; rw [decide_eq_true hneg8]) ?_
  refine JO.seq L hfo ?_
  refine JO.pieceQ L (by kernel_rfl) hfo (λ Tp Q HQ => ?_)
  simp only [rLA9, bodyLA, Tryd.f6, Option.getD_some]
  go_wp2
  refine HQ.out _ _ ?_
  refine JO.ret L hfo ?_
  exact hend _ _ _ rfl
 refine JO.cond L (t := false) hfo (by show Value.bool (decide _) = _; rw [decide_eq_false hneg8]) ?_
 refine JO.skip L hfo ?_
 have l3 : n3 <= 1048576 := (szDeedN_all (by omega : 0 <= szDeedN (szDeedN (1048576) n2 ds) n3 ts) (by omega)).1
 have hle8 : szDeedN (szDeedN (1048576) n2 ds) n3 ts <= 1048576 := Int.le_trans (szDeedN_le (by omega)) (by omega)
 refine JO.seq L hfo ?_
 refine JO.pieceQ L (by kernel_rfl) hfo (λ Tp Q HQ => ?_)
 simp only [rLA10, bodyLA, Tryd.f6, Option.getD_some]
 replace h1 := h1.tp Tp 0
 replace h2 := h2.tp Tp 0
 replace h3 := h3.tp Tp 0
 replace B := B.tp Tp 0
 have s10 : w9.heap.size <= (Tt.tp w9 Tp 0).heap.size := Nat.le_refl _
 generalize Tt.tp w9 Tp 0 = w10 at B h1 h2 h3 s10 ⊢
 have once11 : True := trivial
 go_wp2_with (go_at_call 22; clear once11; refine (toInt_u h1 l1).mono ?_; rintro e w11 ⟨pY1, qY1, rfl, gY1, kY1, jY1, fY1, b11⟩)
 have s11 := b11.size
 replace h1 := h1.below b11
 replace h2 := h2.below b11
 replace h3 := h3.below b11
 replace B := B.below' b11 (by omega)
 clear b11
 have uY1 := blk_lt kY1
 have once12 : True := trivial
 go_wp2_with (go_at_call 23; clear once12; refine (toDeed_u h2 l2).mono ?_; rintro e w12 ⟨pY2, qY2, rfl, gY2, kY2, jY2, fY2, b12⟩)
 have s12 := b12.size
 replace h1 := h1.below b12
 replace h2 := h2.below b12
 replace h3 := h3.below b12
 replace fY1 := fY1.below b12
 replace kY1 := (blk_below b12 kY1).1
 replace B := B.below' b12 (by omega)
 clear b12
 have uY2 := blk_lt kY2
 have once13 : True := trivial
 go_wp2_with (go_at_call 23; clear once13; refine (toDeed_u h3 l3).mono ?_; rintro e w13 ⟨pY3, qY3, rfl, gY3, kY3, jY3, fY3, b13⟩)
 have s13 := b13.size
 replace h1 := h1.below b13
 replace h2 := h2.below b13
 replace h3 := h3.below b13
 replace fY1 := fY1.below b13
 replace kY1 := (blk_below b13 kY1).1
 replace fY2 := fY2.below b13
 replace kY2 := (blk_below b13 kY2).1
 replace B := B.below' b13 (by omega)
 clear b13
 have uY3 := blk_lt kY3
 have once14 : True := trivial
 go_wp2_with (go_at_call 15; clear once14; refine (spec_ServeAround _ _ _ _ _ _ _ _ _ _ _ _ _ _ _ rooms ds ts tn _ fY1.slc fY2.slc fY3.slc l1 l2 l3).mono ?_; rintro e w14 ⟨RA, Rn, Rc, rfl, R, b14⟩)
 have s14 := b14.size
 replace h1 := h1.below b14
 replace h2 := h2.below b14
 replace h3 := h3.below b14
 replace fY1 := fY1.below b14
 replace kY1 := (blk_below b14 kY1).1
 replace fY2 := fY2.below b14
 replace kY2 := (blk_below b14 kY2).1
 replace fY3 := fY3.below b14
 replace kY3 := (blk_below b14 kY3).1
 replace B := B.below' b14 (by omega)
 clear b14
 rw [<- srvs_svds] at R
 have Rl : Rn <= 1048576 := by have := R.slc.srvsLen; have := HLEN.out; omega
 go_wp2
 refine HQ.out _ _ ?_
 clear HQ
 refine JO.seq L hfo ?_
 refine JO.pieceQ L (by kernel_rfl) hfo (λ Tp Q HQ => ?_)
 simp only [rLA11, bodyLA, Tryd.f6, Option.getD_some]
 replace h1 := h1.tp Tp 0
 replace h2 := h2.tp Tp 0
 replace h3 := h3.tp Tp 0
 replace fY1 := fY1.tp Tp 0
 replace kY1 := blk_tp kY1 Tp 0
 replace fY2 := fY2.tp Tp 0
 replace kY2 := blk_tp kY2 Tp 0
 replace fY3 := fY3.tp Tp 0
 replace kY3 := blk_tp kY3 Tp 0
 replace R := R.tp Tp 0
 replace B := B.tp Tp 0
 have s15 : w14.heap.size <= (Tt.tp w14 Tp 0).heap.size := Nat.le_refl _
 generalize Tt.tp w14 Tp 0 = w15 at B h1 h2 h3 fY1 kY1 fY2 kY2 fY3 kY3 R s15 ⊢
 have once16 : True := trivial
 go_wp2_with (go_at_call 22; clear once16; refine (toInt_u h1 l1).mono ?_; rintro e w16 ⟨pY4, qY4, rfl, gY4, kY4, jY4, fY4, b16⟩)
 have s16 := b16.size
 replace h1 := h1.below b16
 replace h2 := h2.below b16
 replace h3 := h3.below b16
 replace fY1 := fY1.below b16
 replace kY1 := (blk_below b16 kY1).1
 replace fY2 := fY2.below b16
 replace kY2 := (blk_below b16 kY2).1
 replace fY3 := fY3.below b16
 replace kY3 := (blk_below b16 kY3).1
 replace R := R.below b16
 replace B := B.below' b16 (by omega)
 clear b16
 have uY4 := blk_lt kY4
 go_wp2
 refine HQ.out _ _ ?_
 clear HQ
 refine JO.seq L hfo ?_
 refine JO.pieceQ L (by kernel_rfl) hfo (λ Tp Q HQ => ?_)
 simp only [rLA12, bodyLA, Tryd.f6, Option.getD_some]
 replace h1 := h1.tp Tp 0
 replace h2 := h2.tp Tp 0
 replace h3 := h3.tp Tp 0
 replace fY1 := fY1.tp Tp 0
 replace kY1 := blk_tp kY1 Tp 0
 replace fY2 := fY2.tp Tp 0
 replace kY2 := blk_tp kY2 Tp 0
 replace fY3 := fY3.tp Tp 0
 replace kY3 := blk_tp kY3 Tp 0
 replace R := R.tp Tp 0
 replace fY4 := fY4.tp Tp 0
 replace kY4 := blk_tp kY4 Tp 0
 replace B := B.tp Tp 0
 have s17 : w16.heap.size <= (Tt.tp w16 Tp 0).heap.size := Nat.le_refl _
 generalize Tt.tp w16 Tp 0 = w17 at B h1 h2 h3 fY1 kY1 fY2 kY2 fY3 kY3 R fY4 kY4 s17 ⊢
 have once18 : True := trivial
 go_wp2_with (go_at_call 23; clear once18; refine (toDeed_u h2 l2).mono ?_; rintro e w18 ⟨pY5, qY5, rfl, gY5, kY5, jY5, fY5, b18⟩)
 have s18 := b18.size
 replace h1 := h1.below b18
 replace h2 := h2.below b18
 replace h3 := h3.below b18
 replace fY1 := fY1.below b18
 replace kY1 := (blk_below b18 kY1).1
 replace fY2 := fY2.below b18
 replace kY2 := (blk_below b18 kY2).1
 replace fY3 := fY3.below b18
 replace kY3 := (blk_below b18 kY3).1
 replace R := R.below b18
 replace fY4 := fY4.below b18
 replace kY4 := (blk_below b18 kY4).1
 replace B := B.below' b18 (by omega)
 clear b18
 have uY5 := blk_lt kY5
 go_wp2
 refine HQ.out _ _ ?_
 clear HQ
 refine JO.seq L hfo ?_
 refine JO.pieceQ L (by kernel_rfl) hfo (λ Tp Q HQ => ?_)
 simp only [rLA13, bodyLA, Tryd.f6, Option.getD_some]
 replace h1 := h1.tp Tp 0
 replace h2 := h2.tp Tp 0
 replace h3 := h3.tp Tp 0
 replace fY1 := fY1.tp Tp 0
 replace kY1 := blk_tp kY1 Tp 0
 replace fY2 := fY2.tp Tp 0
 replace kY2 := blk_tp kY2 Tp 0
 replace fY3 := fY3.tp Tp 0
 replace kY3 := blk_tp kY3 Tp 0
 replace R := R.tp Tp 0
 replace fY4 := fY4.tp Tp 0
 replace kY4 := blk_tp kY4 Tp 0
 replace fY5 := fY5.tp Tp 0
 replace kY5 := blk_tp kY5 Tp 0
 replace B := B.tp Tp 0
 have s19 : w18.heap.size <= (Tt.tp w18 Tp 0).heap.size := Nat.le_refl _
 generalize Tt.tp w18 Tp 0 = w19 at B h1 h2 h3 fY1 kY1 fY2 kY2 fY3 kY3 R fY4 kY4 fY5 kY5 s19 ⊢
 have once20 : True := trivial
 go_wp2_with (go_at_call 23; clear once20; refine (toDeed_u h3 l3).mono ?_; rintro e w20 ⟨pY6, qY6, rfl, gY6, kY6, jY6, fY6, b20⟩)
 have s20 := b20.size
 replace h1 := h1.below b20
 replace h2 := h2.below b20
 replace h3 := h3.below b20
 replace fY1 := fY1.below b20
 replace kY1 := (blk_below b20 kY1).1
 replace fY2 := fY2.below b20
 replace kY2 := (blk_below b20 kY2).1
 replace fY3 := fY3.below b20
 replace kY3 := (blk_below b20 kY3).1
 replace R := R.below b20
 replace fY4 := fY4.below b20
 replace kY4 := (blk_below b20 kY4).1
 replace fY5 := fY5.below b20
 replace kY5 := (blk_below b20 kY5).1
 replace B := B.below' b20 (by omega)
 clear b20
 have uY6 := blk_lt kY6
 go_wp2
 refine HQ.out _ _ ?_
 clear HQ
 refine JO.seq L hfo ?_
 generalize hk0 : ([Item.code _] : List Item) = K0
 rw [rLA14_eq]
 refine JO.reg L hfo ?_
 rw [opsLA14_range]
 refine JO.opv L (v := .slice (some ⟨pY4, 0, none⟩) n1 n1) hfo opsLA14_0 rfl (λ T e => rfl) ?_
 simp only [Go.Act.put, List.setIfInBounds_toArray, List.set_cons_zero, List.set_cons_succ]
 refine JO.opv L (v := .slice (some ⟨pY5, 0, none⟩) n2 n2) hfo opsLA14_1 rfl (λ T e => rfl) ?_
 simp only [Go.Act.put, List.setIfInBounds_toArray, List.set_cons_zero, List.set_cons_succ]
 refine JO.opv L (v := .slice (some ⟨pY6, 0, none⟩) n3 n3) hfo opsLA14_2 rfl (λ T e => rfl) ?_
 simp only [Go.Act.put, List.setIfInBounds_toArray, List.set_cons_zero, List.set_cons_succ]
 refine JO.opv L (v := .int .i64 tn) hfo opsLA14_3 rfl (λ T e => rfl) ?_
 simp only [Go.Act.put, List.setIfInBounds_toArray, List.set_cons_zero, List.set_cons_succ]
 refine jo_around (ops := opsLA14) (i := 4) (o := oLA14_4) (A1 := some ⟨pY4, 0, none⟩) (A2 := some ⟨pY5, 0, none⟩) (A3 := some ⟨pY6, 0, none⟩) (rooms := rooms) (ds := ds) (ts := ts) (tn := tn) rfl hfo rfl opsLA14_4 rfl rfl (by simp [Fm.eval]) (fY4.slc.wide (Nat.zero_le _) (by omega)) (fY5.slc.wide (Nat.zero_le _) (by omega)) (fY6.slc.wide (Nat.zero_le _) (by omega)) l1 l2 l3 (hT.bls B (Nat.le_refl _)) (hTU.bls B (Nat.le_refl _)) (blkU_mk kY4 jY4 ints_plain) (blkU_mk kY5 jY5 deeds_plain) (blkU_mk kY6 jY6 deeds_plain) (λ w21 G7A G7n G7c b21 G7 => ?_)
 have s21 := b21.size
 replace h1 := h1.bls b21 (Nat.le_refl _)
 replace h2 := h2.bls b21 (Nat.le_refl _)
 replace h3 := h3.bls b21 (Nat.le_refl _)
 replace fY1 := fY1.bls b21 (Nat.le_refl _)
 replace kY1 := blk_bl b21 kY1 (blk_lt kY1)
 replace fY2 := fY2.bls b21 (Nat.le_refl _)
 replace kY2 := blk_bl b21 kY2 (blk_lt kY2)
 replace fY3 := fY3.bls b21 (Nat.le_refl _)
 replace kY3 := blk_bl b21 kY3 (blk_lt kY3)
 replace R := R.bls b21 (Nat.le_refl _)
 replace fY4 := fY4.bls b21 (Nat.le_refl _)
 replace kY4 := blk_bl b21 kY4 (blk_lt kY4)
 replace fY5 := fY5.bls b21 (Nat.le_refl _)
 replace kY5 := blk_bl b21 kY5 (blk_lt kY5)
 replace fY6 := fY6.bls b21 (Nat.le_refl _)
 replace kY6 := blk_bl b21 kY6 (blk_lt kY6)
 replace B := B.then b21 (by omega)
 clear b21
 rw [<- srvs_svds] at G7
 have G7l : G7n <= 1048576 := by have := G7.slc.srvsLen; have := HLEN.out; omega
 simp only [Fm.fin, opsLA14_4, Option.bind_some, List.setIfInBounds_toArray, List.set_cons_zero, List.set_cons_succ]
 refine JO.opv L (v := .tuple #[.slice G7A G7n G7c, .bool (servedF rooms ds ts tn true).2]) hfo opsLA14_5 rfl (λ T e => rfl) ?_
 simp only [Go.Act.put, List.setIfInBounds_toArray, List.set_cons_zero, List.set_cons_succ]
 refine JO.opv L (v := .slice G7A G7n G7c) hfo opsLA14_6 rfl (λ T e => rfl) ?_
 simp only [Go.Act.put, List.setIfInBounds_toArray, List.set_cons_zero, List.set_cons_succ]
 refine JO.opv L (v := .bool (servedF rooms ds ts tn true).2) hfo opsLA14_7 rfl (λ T e => rfl) ?_
 simp only [Go.Act.put, List.setIfInBounds_toArray, List.set_cons_zero, List.set_cons_succ]
 refine JO.opv L (v := .slice G7A G7n G7c) hfo opsLA14_8 rfl (λ T e => rfl) ?_
 simp only [Go.Act.put, List.setIfInBounds_toArray, List.set_cons_zero, List.set_cons_succ]
 refine JO.opv L (v := .bool (servedF rooms ds ts tn true).2) hfo opsLA14_9 rfl (λ T e => rfl) ?_
 simp only [Go.Act.put, List.setIfInBounds_toArray, List.set_cons_zero, List.set_cons_succ]
 refine JO.regEnd L hfo ?_
 subst hk0
 refine JO.seq L hfo ?_
 refine JO.pieceQ L (by kernel_rfl) hfo (λ Tp Q HQ => ?_)
 simp only [qLA15, bodyLA, Tryd.f6, Option.getD_some]
 replace h1 := h1.tp Tp 0
 replace h2 := h2.tp Tp 0
 replace h3 := h3.tp Tp 0
 replace fY1 := fY1.tp Tp 0
 replace kY1 := blk_tp kY1 Tp 0
 replace fY2 := fY2.tp Tp 0
 replace kY2 := blk_tp kY2 Tp 0
 replace fY3 := fY3.tp Tp 0
 replace kY3 := blk_tp kY3 Tp 0
 replace R := R.tp Tp 0
 replace fY4 := fY4.tp Tp 0
 replace kY4 := blk_tp kY4 Tp 0
 replace fY5 := fY5.tp Tp 0
 replace kY5 := blk_tp kY5 Tp 0
 replace fY6 := fY6.tp Tp 0
 replace kY6 := blk_tp kY6 Tp 0
 replace G7 := G7.tp Tp 0
 replace B := B.tp Tp 0
 have s22 : w21.heap.size <= (Tt.tp w21 Tp 0).heap.size := Nat.le_refl _
 generalize Tt.tp w21 Tp 0 = w22 at B h1 h2 h3 fY1 kY1 fY2 kY2 fY3 kY3 R fY4 kY4 fY5 kY5 fY6 kY6 G7 s22 ⊢
 have once23 : True := trivial
 go_wp2_with (go_at_call 24; clear once23; refine (eqServed_u G7.slc R.slc G7l Rl).mono ?_; rintro e w23 ⟨rfl, b23⟩; rw [HEQ.out])
 have s23 := b23.size
 replace h1 := h1.below b23
 replace h2 := h2.below b23
 replace h3 := h3.below b23
 replace fY1 := fY1.below b23
 replace kY1 := (blk_below b23 kY1).1
 replace fY2 := fY2.below b23
 replace kY2 := (blk_below b23 kY2).1
 replace fY3 := fY3.below b23
 replace kY3 := (blk_below b23 kY3).1
 replace R := R.below b23
 replace fY4 := fY4.below b23
 replace kY4 := (blk_below b23 kY4).1
 replace fY5 := fY5.below b23
 replace kY5 := (blk_below b23 kY5).1
 replace fY6 := fY6.below b23
 replace kY6 := (blk_below b23 kY6).1
 replace G7 := G7.below b23
 replace B := B.below' b23 (by omega)
 clear b23
 go_wp2
 refine HQ.out _ _ ?_
 clear HQ
 refine JO.seq L hfo ?_
 refine JO.pieceQ L (by kernel_rfl) hfo (λ Tp Q HQ => ?_)
 simp only [qLA17, bodyLA, Tryd.f6, Option.getD_some]
 replace h1 := h1.tp Tp 0
 replace h2 := h2.tp Tp 0
 replace h3 := h3.tp Tp 0
 replace fY1 := fY1.tp Tp 0
 replace kY1 := blk_tp kY1 Tp 0
 replace fY2 := fY2.tp Tp 0
 replace kY2 := blk_tp kY2 Tp 0
 replace fY3 := fY3.tp Tp 0
 replace kY3 := blk_tp kY3 Tp 0
 replace R := R.tp Tp 0
 replace fY4 := fY4.tp Tp 0
 replace kY4 := blk_tp kY4 Tp 0
 replace fY5 := fY5.tp Tp 0
 replace kY5 := blk_tp kY5 Tp 0
 replace fY6 := fY6.tp Tp 0
 replace kY6 := blk_tp kY6 Tp 0
 replace G7 := G7.tp Tp 0
 replace B := B.tp Tp 0
 have s24 : w23.heap.size <= (Tt.tp w23 Tp 0).heap.size := Nat.le_refl _
 generalize Tt.tp w23 Tp 0 = w24 at B h1 h2 h3 fY1 kY1 fY2 kY2 fY3 kY3 R fY4 kY4 fY5 kY5 fY6 kY6 G7 s24 ⊢
 have once25 : True := trivial
 go_wp2_with (go_at_call 22; clear once25; refine (toInt_u h1 l1).mono ?_; rintro e w25 ⟨pY8, qY8, rfl, gY8, kY8, jY8, fY8, b25⟩)
 have s25 := b25.size
 replace h1 := h1.below b25
 replace h2 := h2.below b25
 replace h3 := h3.below b25
 replace fY1 := fY1.below b25
 replace kY1 := (blk_below b25 kY1).1
 replace fY2 := fY2.below b25
 replace kY2 := (blk_below b25 kY2).1
 replace fY3 := fY3.below b25
 replace kY3 := (blk_below b25 kY3).1
 replace R := R.below b25
 replace fY4 := fY4.below b25
 replace kY4 := (blk_below b25 kY4).1
 replace fY5 := fY5.below b25
 replace kY5 := (blk_below b25 kY5).1
 replace fY6 := fY6.below b25
 replace kY6 := (blk_below b25 kY6).1
 replace G7 := G7.below b25
 replace B := B.below' b25 (by omega)
 clear b25
 have uY8 := blk_lt kY8
 have once26 : True := trivial
 go_wp2_with (go_at_call 25; clear once26; refine (eqInt_u fY4.slc fY8.slc l1 l1).mono ?_; rintro e w26 ⟨rfl, b26⟩; rw [HX0.out])
 have s26 := b26.size
 replace h1 := h1.below b26
 replace h2 := h2.below b26
 replace h3 := h3.below b26
 replace fY1 := fY1.below b26
 replace kY1 := (blk_below b26 kY1).1
 replace fY2 := fY2.below b26
 replace kY2 := (blk_below b26 kY2).1
 replace fY3 := fY3.below b26
 replace kY3 := (blk_below b26 kY3).1
 replace R := R.below b26
 replace fY4 := fY4.below b26
 replace kY4 := (blk_below b26 kY4).1
 replace fY5 := fY5.below b26
 replace kY5 := (blk_below b26 kY5).1
 replace fY6 := fY6.below b26
 replace kY6 := (blk_below b26 kY6).1
 replace G7 := G7.below b26
 replace fY8 := fY8.below b26
 replace kY8 := (blk_below b26 kY8).1
 replace B := B.below' b26 (by omega)
 clear b26
 go_wp2
 refine HQ.out _ _ ?_
 clear HQ
 refine JO.seq L hfo ?_
 refine JO.pieceQ L (by kernel_rfl) hfo (λ Tp Q HQ => ?_)
 simp only [qLA19, bodyLA, Tryd.f6, Option.getD_some]
 replace h1 := h1.tp Tp 0
 replace h2 := h2.tp Tp 0
 replace h3 := h3.tp Tp 0
 replace fY1 := fY1.tp Tp 0
 replace kY1 := blk_tp kY1 Tp 0
 replace fY2 := fY2.tp Tp 0
 replace kY2 := blk_tp kY2 Tp 0
 replace fY3 := fY3.tp Tp 0
 replace kY3 := blk_tp kY3 Tp 0
 replace R := R.tp Tp 0
 replace fY4 := fY4.tp Tp 0
 replace kY4 := blk_tp kY4 Tp 0
 replace fY5 := fY5.tp Tp 0
 replace kY5 := blk_tp kY5 Tp 0
 replace fY6 := fY6.tp Tp 0
 replace kY6 := blk_tp kY6 Tp 0
 replace G7 := G7.tp Tp 0
 replace fY8 := fY8.tp Tp 0
 replace kY8 := blk_tp kY8 Tp 0
 replace B := B.tp Tp 0
 have s27 : w26.heap.size <= (Tt.tp w26 Tp 0).heap.size := Nat.le_refl _
 generalize Tt.tp w26 Tp 0 = w27 at B h1 h2 h3 fY1 kY1 fY2 kY2 fY3 kY3 R fY4 kY4 fY5 kY5 fY6 kY6 G7 fY8 kY8 s27 ⊢
 have once28 : True := trivial
 go_wp2_with (go_at_call 23; clear once28; refine (toDeed_u h2 l2).mono ?_; rintro e w28 ⟨pY9, qY9, rfl, gY9, kY9, jY9, fY9, b28⟩)
 have s28 := b28.size
 replace h1 := h1.below b28
 replace h2 := h2.below b28
 replace h3 := h3.below b28
 replace fY1 := fY1.below b28
 replace kY1 := (blk_below b28 kY1).1
 replace fY2 := fY2.below b28
 replace kY2 := (blk_below b28 kY2).1
 replace fY3 := fY3.below b28
 replace kY3 := (blk_below b28 kY3).1
 replace R := R.below b28
 replace fY4 := fY4.below b28
 replace kY4 := (blk_below b28 kY4).1
 replace fY5 := fY5.below b28
 replace kY5 := (blk_below b28 kY5).1
 replace fY6 := fY6.below b28
 replace kY6 := (blk_below b28 kY6).1
 replace G7 := G7.below b28
 replace fY8 := fY8.below b28
 replace kY8 := (blk_below b28 kY8).1
 replace B := B.below' b28 (by omega)
 clear b28
 have uY9 := blk_lt kY9
 have once29 : True := trivial
 go_wp2_with (go_at_call 26; clear once29; refine (eqDeed_u fY5.slc fY9.slc l2 l2).mono ?_; rintro e w29 ⟨rfl, b29⟩; rw [HX1.out])
 have s29 := b29.size
 replace h1 := h1.below b29
 replace h2 := h2.below b29
 replace h3 := h3.below b29
 replace fY1 := fY1.below b29
 replace kY1 := (blk_below b29 kY1).1
 replace fY2 := fY2.below b29
 replace kY2 := (blk_below b29 kY2).1
 replace fY3 := fY3.below b29
 replace kY3 := (blk_below b29 kY3).1
 replace R := R.below b29
 replace fY4 := fY4.below b29
 replace kY4 := (blk_below b29 kY4).1
 replace fY5 := fY5.below b29
 replace kY5 := (blk_below b29 kY5).1
 replace fY6 := fY6.below b29
 replace kY6 := (blk_below b29 kY6).1
 replace G7 := G7.below b29
 replace fY8 := fY8.below b29
 replace kY8 := (blk_below b29 kY8).1
 replace fY9 := fY9.below b29
 replace kY9 := (blk_below b29 kY9).1
 replace B := B.below' b29 (by omega)
 clear b29
 go_wp2
 refine HQ.out _ _ ?_
 clear HQ
 refine JO.seq L hfo ?_
 refine JO.pieceQ L (by kernel_rfl) hfo (λ Tp Q HQ => ?_)
 simp only [qLA21, bodyLA, Tryd.f6, Option.getD_some]
 replace h1 := h1.tp Tp 0
 replace h2 := h2.tp Tp 0
 replace h3 := h3.tp Tp 0
 replace fY1 := fY1.tp Tp 0
 replace kY1 := blk_tp kY1 Tp 0
 replace fY2 := fY2.tp Tp 0
 replace kY2 := blk_tp kY2 Tp 0
 replace fY3 := fY3.tp Tp 0
 replace kY3 := blk_tp kY3 Tp 0
 replace R := R.tp Tp 0
 replace fY4 := fY4.tp Tp 0
 replace kY4 := blk_tp kY4 Tp 0
 replace fY5 := fY5.tp Tp 0
 replace kY5 := blk_tp kY5 Tp 0
 replace fY6 := fY6.tp Tp 0
 replace kY6 := blk_tp kY6 Tp 0
 replace G7 := G7.tp Tp 0
 replace fY8 := fY8.tp Tp 0
 replace kY8 := blk_tp kY8 Tp 0
 replace fY9 := fY9.tp Tp 0
 replace kY9 := blk_tp kY9 Tp 0
 replace B := B.tp Tp 0
 have s30 : w29.heap.size <= (Tt.tp w29 Tp 0).heap.size := Nat.le_refl _
 generalize Tt.tp w29 Tp 0 = w30 at B h1 h2 h3 fY1 kY1 fY2 kY2 fY3 kY3 R fY4 kY4 fY5 kY5 fY6 kY6 G7 fY8 kY8 fY9 kY9 s30 ⊢
 have once31 : True := trivial
 go_wp2_with (go_at_call 23; clear once31; refine (toDeed_u h3 l3).mono ?_; rintro e w31 ⟨pY10, qY10, rfl, gY10, kY10, jY10, fY10, b31⟩)
 have s31 := b31.size
 replace h1 := h1.below b31
 replace h2 := h2.below b31
 replace h3 := h3.below b31
 replace fY1 := fY1.below b31
 replace kY1 := (blk_below b31 kY1).1
 replace fY2 := fY2.below b31
 replace kY2 := (blk_below b31 kY2).1
 replace fY3 := fY3.below b31
 replace kY3 := (blk_below b31 kY3).1
 replace R := R.below b31
 replace fY4 := fY4.below b31
 replace kY4 := (blk_below b31 kY4).1
 replace fY5 := fY5.below b31
 replace kY5 := (blk_below b31 kY5).1
 replace fY6 := fY6.below b31
 replace kY6 := (blk_below b31 kY6).1
 replace G7 := G7.below b31
 replace fY8 := fY8.below b31
 replace kY8 := (blk_below b31 kY8).1
 replace fY9 := fY9.below b31
 replace kY9 := (blk_below b31 kY9).1
 replace B := B.below' b31 (by omega)
 clear b31
 have uY10 := blk_lt kY10
 have once32 : True := trivial
 go_wp2_with (go_at_call 26; clear once32; refine (eqDeed_u fY6.slc fY10.slc l3 l3).mono ?_; rintro e w32 ⟨rfl, b32⟩; rw [HX2.out])
 have s32 := b32.size
 replace h1 := h1.below b32
 replace h2 := h2.below b32
 replace h3 := h3.below b32
 replace fY1 := fY1.below b32
 replace kY1 := (blk_below b32 kY1).1
 replace fY2 := fY2.below b32
 replace kY2 := (blk_below b32 kY2).1
 replace fY3 := fY3.below b32
 replace kY3 := (blk_below b32 kY3).1
 replace R := R.below b32
 replace fY4 := fY4.below b32
 replace kY4 := (blk_below b32 kY4).1
 replace fY5 := fY5.below b32
 replace kY5 := (blk_below b32 kY5).1
 replace fY6 := fY6.below b32
 replace kY6 := (blk_below b32 kY6).1
 replace G7 := G7.below b32
 replace fY8 := fY8.below b32
 replace kY8 := (blk_below b32 kY8).1
 replace fY9 := fY9.below b32
 replace kY9 := (blk_below b32 kY9).1
 replace fY10 := fY10.below b32
 replace kY10 := (blk_below b32 kY10).1
 replace B := B.below' b32 (by omega)
 clear b32
 go_wp2
 refine HQ.out _ _ ?_
 clear HQ
 refine JO.seq L hfo ?_
 refine JO.pieceQ L (by kernel_rfl) hfo (λ Tp Q HQ => ?_)
 simp only [rLA23, bodyLA, Tryd.f6, Option.getD_some]
 replace h1 := h1.tp Tp 0
 replace h2 := h2.tp Tp 0
 replace h3 := h3.tp Tp 0
 replace fY1 := fY1.tp Tp 0
 replace kY1 := blk_tp kY1 Tp 0
 replace fY2 := fY2.tp Tp 0
 replace kY2 := blk_tp kY2 Tp 0
 replace fY3 := fY3.tp Tp 0
 replace kY3 := blk_tp kY3 Tp 0
 replace R := R.tp Tp 0
 replace fY4 := fY4.tp Tp 0
 replace kY4 := blk_tp kY4 Tp 0
 replace fY5 := fY5.tp Tp 0
 replace kY5 := blk_tp kY5 Tp 0
 replace fY6 := fY6.tp Tp 0
 replace kY6 := blk_tp kY6 Tp 0
 replace G7 := G7.tp Tp 0
 replace fY8 := fY8.tp Tp 0
 replace kY8 := blk_tp kY8 Tp 0
 replace fY9 := fY9.tp Tp 0
 replace kY9 := blk_tp kY9 Tp 0
 replace fY10 := fY10.tp Tp 0
 replace kY10 := blk_tp kY10 Tp 0
 replace B := B.tp Tp 0
 have s33 : w32.heap.size <= (Tt.tp w32 Tp 0).heap.size := Nat.le_refl _
 generalize Tt.tp w32 Tp 0 = w33 at B h1 h2 h3 fY1 kY1 fY2 kY2 fY3 kY3 R fY4 kY4 fY5 kY5 fY6 kY6 G7 fY8 kY8 fY9 kY9 fY10 kY10 s33 ⊢
 go_wp2
 refine HQ.out _ _ ?_
 clear HQ
 refine JO.seq L hfo ?_
 refine JO.pieceQ L (by kernel_rfl) hfo (λ Tp Q HQ => ?_)
 simp only [rLA24, bodyLA, Tryd.f6, Option.getD_some]
 replace h1 := h1.tp Tp 0
 replace h2 := h2.tp Tp 0
 replace h3 := h3.tp Tp 0
 replace fY1 := fY1.tp Tp 0
 replace kY1 := blk_tp kY1 Tp 0
 replace fY2 := fY2.tp Tp 0
 replace kY2 := blk_tp kY2 Tp 0
 replace fY3 := fY3.tp Tp 0
 replace kY3 := blk_tp kY3 Tp 0
 replace R := R.tp Tp 0
 replace fY4 := fY4.tp Tp 0
 replace kY4 := blk_tp kY4 Tp 0
 replace fY5 := fY5.tp Tp 0
 replace kY5 := blk_tp kY5 Tp 0
 replace fY6 := fY6.tp Tp 0
 replace kY6 := blk_tp kY6 Tp 0
 replace G7 := G7.tp Tp 0
 replace fY8 := fY8.tp Tp 0
 replace kY8 := blk_tp kY8 Tp 0
 replace fY9 := fY9.tp Tp 0
 replace kY9 := blk_tp kY9 Tp 0
 replace fY10 := fY10.tp Tp 0
 replace kY10 := blk_tp kY10 Tp 0
 replace B := B.tp Tp 0
 have s34 : w33.heap.size <= (Tt.tp w33 Tp 0).heap.size := Nat.le_refl _
 generalize Tt.tp w33 Tp 0 = w34 at B h1 h2 h3 fY1 kY1 fY2 kY2 fY3 kY3 R fY4 kY4 fY5 kY5 fY6 kY6 G7 fY8 kY8 fY9 kY9 fY10 kY10 s34 ⊢
 have once35 : True := trivial
 go_wp2_with (go_at_call 27; clear once35; refine (markInt_u (1) fY4 l1 (by omega)).mono ?_; rintro e w35 ⟨rfl, _, b35⟩)
 have s35 := b35.size
 clear fY4
 clear kY4
 replace h1 := h1.chg b35 (by omega)
 replace h2 := h2.chg b35 (by omega)
 replace h3 := h3.chg b35 (by omega)
 replace fY1 := fY1.chg b35 (by omega)
 replace kY1 := blk_chg kY1 b35 (by omega)
 replace fY2 := fY2.chg b35 (by omega)
 replace kY2 := blk_chg kY2 b35 (by omega)
 replace fY3 := fY3.chg b35 (by omega)
 replace kY3 := blk_chg kY3 b35 (by omega)
 replace R := R.chg b35 (by omega)
 replace fY5 := fY5.chg b35 (by omega)
 replace kY5 := blk_chg kY5 b35 (by omega)
 replace fY6 := fY6.chg b35 (by omega)
 replace kY6 := blk_chg kY6 b35 (by omega)
 replace G7 := G7.chg b35 (by omega)
 replace fY8 := fY8.chg b35 (by omega)
 replace kY8 := blk_chg kY8 b35 (by omega)
 replace fY9 := fY9.chg b35 (by omega)
 replace kY9 := blk_chg kY9 b35 (by omega)
 replace fY10 := fY10.chg b35 (by omega)
 replace kY10 := blk_chg kY10 b35 (by omega)
 replace B := B.chg b35 (by omega) (by omega)
 clear b35
 go_wp2
 refine HQ.out _ _ ?_
 clear HQ
 refine JO.seq L hfo ?_
 refine JO.pieceQ L (by kernel_rfl) hfo (λ Tp Q HQ => ?_)
 simp only [rLA25, bodyLA, Tryd.f6, Option.getD_some]
 replace h1 := h1.tp Tp 0
 replace h2 := h2.tp Tp 0
 replace h3 := h3.tp Tp 0
 replace fY1 := fY1.tp Tp 0
 replace kY1 := blk_tp kY1 Tp 0
 replace fY2 := fY2.tp Tp 0
 replace kY2 := blk_tp kY2 Tp 0
 replace fY3 := fY3.tp Tp 0
 replace kY3 := blk_tp kY3 Tp 0
 replace R := R.tp Tp 0
 replace fY5 := fY5.tp Tp 0
 replace kY5 := blk_tp kY5 Tp 0
 replace fY6 := fY6.tp Tp 0
 replace kY6 := blk_tp kY6 Tp 0
 replace G7 := G7.tp Tp 0
 replace fY8 := fY8.tp Tp 0
 replace kY8 := blk_tp kY8 Tp 0
 replace fY9 := fY9.tp Tp 0
 replace kY9 := blk_tp kY9 Tp 0
 replace fY10 := fY10.tp Tp 0
 replace kY10 := blk_tp kY10 Tp 0
 replace B := B.tp Tp 0
 have s36 : w35.heap.size <= (Tt.tp w35 Tp 0).heap.size := Nat.le_refl _
 generalize Tt.tp w35 Tp 0 = w36 at B h1 h2 h3 fY1 kY1 fY2 kY2 fY3 kY3 R fY5 kY5 fY6 kY6 G7 fY8 kY8 fY9 kY9 fY10 kY10 s36 ⊢
 have once37 : True := trivial
 go_wp2_with (go_at_call 28; clear once37; refine (markDeed_u (1 + n1) fY5 l2 (by omega)).mono ?_; rintro e w37 ⟨rfl, b37⟩)
 have s37 := b37.size
 clear fY5
 clear kY5
 replace h1 := h1.chg b37 (by omega)
 replace h2 := h2.chg b37 (by omega)
 replace h3 := h3.chg b37 (by omega)
 replace fY1 := fY1.chg b37 (by omega)
 replace kY1 := blk_chg kY1 b37 (by omega)
 replace fY2 := fY2.chg b37 (by omega)
 replace kY2 := blk_chg kY2 b37 (by omega)
 replace fY3 := fY3.chg b37 (by omega)
 replace kY3 := blk_chg kY3 b37 (by omega)
 replace R := R.chg b37 (by omega)
 replace fY6 := fY6.chg b37 (by omega)
 replace kY6 := blk_chg kY6 b37 (by omega)
 replace G7 := G7.chg b37 (by omega)
 replace fY8 := fY8.chg b37 (by omega)
 replace kY8 := blk_chg kY8 b37 (by omega)
 replace fY9 := fY9.chg b37 (by omega)
 replace kY9 := blk_chg kY9 b37 (by omega)
 replace fY10 := fY10.chg b37 (by omega)
 replace kY10 := blk_chg kY10 b37 (by omega)
 replace B := B.chg b37 (by omega) (by omega)
 clear b37
 go_wp2
 refine HQ.out _ _ ?_
 clear HQ
 refine JO.seq L hfo ?_
 refine JO.pieceQ L (by kernel_rfl) hfo (λ Tp Q HQ => ?_)
 simp only [rLA26, bodyLA, Tryd.f6, Option.getD_some]
 replace h1 := h1.tp Tp 0
 replace h2 := h2.tp Tp 0
 replace h3 := h3.tp Tp 0
 replace fY1 := fY1.tp Tp 0
 replace kY1 := blk_tp kY1 Tp 0
 replace fY2 := fY2.tp Tp 0
 replace kY2 := blk_tp kY2 Tp 0
 replace fY3 := fY3.tp Tp 0
 replace kY3 := blk_tp kY3 Tp 0
 replace R := R.tp Tp 0
 replace fY6 := fY6.tp Tp 0
 replace kY6 := blk_tp kY6 Tp 0
 replace G7 := G7.tp Tp 0
 replace fY8 := fY8.tp Tp 0
 replace kY8 := blk_tp kY8 Tp 0
 replace fY9 := fY9.tp Tp 0
 replace kY9 := blk_tp kY9 Tp 0
 replace fY10 := fY10.tp Tp 0
 replace kY10 := blk_tp kY10 Tp 0
 replace B := B.tp Tp 0
 have s38 : w37.heap.size <= (Tt.tp w37 Tp 0).heap.size := Nat.le_refl _
 generalize Tt.tp w37 Tp 0 = w38 at B h1 h2 h3 fY1 kY1 fY2 kY2 fY3 kY3 R fY6 kY6 G7 fY8 kY8 fY9 kY9 fY10 kY10 s38 ⊢
 have once39 : True := trivial
 go_wp2_with (go_at_call 28; clear once39; refine (markDeed_u (1 + n1 + 3 * n2) fY6 l3 (by omega)).mono ?_; rintro e w39 ⟨rfl, b39⟩)
 have s39 := b39.size
 clear fY6
 clear kY6
 replace h1 := h1.chg b39 (by omega)
 replace h2 := h2.chg b39 (by omega)
 replace h3 := h3.chg b39 (by omega)
 replace fY1 := fY1.chg b39 (by omega)
 replace kY1 := blk_chg kY1 b39 (by omega)
 replace fY2 := fY2.chg b39 (by omega)
 replace kY2 := blk_chg kY2 b39 (by omega)
 replace fY3 := fY3.chg b39 (by omega)
 replace kY3 := blk_chg kY3 b39 (by omega)
 replace R := R.chg b39 (by omega)
 replace G7 := G7.chg b39 (by omega)
 replace fY8 := fY8.chg b39 (by omega)
 replace kY8 := blk_chg kY8 b39 (by omega)
 replace fY9 := fY9.chg b39 (by omega)
 replace kY9 := blk_chg kY9 b39 (by omega)
 replace fY10 := fY10.chg b39 (by omega)
 replace kY10 := blk_chg kY10 b39 (by omega)
 replace B := B.chg b39 (by omega) (by omega)
 clear b39
 go_wp2
 refine HQ.out _ _ ?_
 clear HQ
 refine JO.seq L hfo ?_
 refine JO.pieceQ L (by kernel_rfl) hfo (λ Tp Q HQ => ?_)
 simp only [qLA27, bodyLA, Tryd.f6, Option.getD_some]
 replace h1 := h1.tp Tp 0
 replace h2 := h2.tp Tp 0
 replace h3 := h3.tp Tp 0
 replace fY1 := fY1.tp Tp 0
 replace kY1 := blk_tp kY1 Tp 0
 replace fY2 := fY2.tp Tp 0
 replace kY2 := blk_tp kY2 Tp 0
 replace fY3 := fY3.tp Tp 0
 replace kY3 := blk_tp kY3 Tp 0
 replace R := R.tp Tp 0
 replace G7 := G7.tp Tp 0
 replace fY8 := fY8.tp Tp 0
 replace kY8 := blk_tp kY8 Tp 0
 replace fY9 := fY9.tp Tp 0
 replace kY9 := blk_tp kY9 Tp 0
 replace fY10 := fY10.tp Tp 0
 replace kY10 := blk_tp kY10 Tp 0
 replace B := B.tp Tp 0
 have s40 : w39.heap.size <= (Tt.tp w39 Tp 0).heap.size := Nat.le_refl _
 generalize Tt.tp w39 Tp 0 = w40 at B h1 h2 h3 fY1 kY1 fY2 kY2 fY3 kY3 R G7 fY8 kY8 fY9 kY9 fY10 kY10 s40 ⊢
 have once41 : True := trivial
 go_wp2_with (go_at_call 24; clear once41; refine (eqServed_u G7.slc R.slc G7l Rl).mono ?_; rintro e w41 ⟨rfl, b41⟩; rw [HEQ.out])
 have s41 := b41.size
 replace h1 := h1.below b41
 replace h2 := h2.below b41
 replace h3 := h3.below b41
 replace fY1 := fY1.below b41
 replace kY1 := (blk_below b41 kY1).1
 replace fY2 := fY2.below b41
 replace kY2 := (blk_below b41 kY2).1
 replace fY3 := fY3.below b41
 replace kY3 := (blk_below b41 kY3).1
 replace R := R.below b41
 replace G7 := G7.below b41
 replace fY8 := fY8.below b41
 replace kY8 := (blk_below b41 kY8).1
 replace fY9 := fY9.below b41
 replace kY9 := (blk_below b41 kY9).1
 replace fY10 := fY10.below b41
 replace kY10 := (blk_below b41 kY10).1
 replace B := B.below' b41 (by omega)
 clear b41
 go_wp2
 refine HQ.out _ _ ?_
 clear HQ
 refine JO.seq L hfo ?_
 refine JO.pieceQ L (by kernel_rfl) hfo (λ Tp Q HQ => ?_)
 simp only [rLA29, bodyLA, Tryd.f6, Option.getD_some]
 replace h1 := h1.tp Tp 0
 replace h2 := h2.tp Tp 0
 replace h3 := h3.tp Tp 0
 replace fY1 := fY1.tp Tp 0
 replace kY1 := blk_tp kY1 Tp 0
 replace fY2 := fY2.tp Tp 0
 replace kY2 := blk_tp kY2 Tp 0
 replace fY3 := fY3.tp Tp 0
 replace kY3 := blk_tp kY3 Tp 0
 replace R := R.tp Tp 0
 replace G7 := G7.tp Tp 0
 replace fY8 := fY8.tp Tp 0
 replace kY8 := blk_tp kY8 Tp 0
 replace fY9 := fY9.tp Tp 0
 replace kY9 := blk_tp kY9 Tp 0
 replace fY10 := fY10.tp Tp 0
 replace kY10 := blk_tp kY10 Tp 0
 replace B := B.tp Tp 0
 have s42 : w41.heap.size <= (Tt.tp w41 Tp 0).heap.size := Nat.le_refl _
 generalize Tt.tp w41 Tp 0 = w42 at B h1 h2 h3 fY1 kY1 fY2 kY2 fY3 kY3 R G7 fY8 kY8 fY9 kY9 fY10 kY10 s42 ⊢
 go_wp2
 refine HQ.out _ _ ?_
 clear HQ
 refine JO.seq L hfo ?_
 refine JO.pieceQ L (by kernel_rfl) hfo (λ Tp Q HQ => ?_)
 simp only [rLA30, bodyLA, Tryd.f6, Option.getD_some]
 replace h1 := h1.tp Tp 0
 replace h2 := h2.tp Tp 0
 replace h3 := h3.tp Tp 0
 replace fY1 := fY1.tp Tp 0
 replace kY1 := blk_tp kY1 Tp 0
 replace fY2 := fY2.tp Tp 0
 replace kY2 := blk_tp kY2 Tp 0
 replace fY3 := fY3.tp Tp 0
 replace kY3 := blk_tp kY3 Tp 0
 replace R := R.tp Tp 0
 replace G7 := G7.tp Tp 0
 replace fY8 := fY8.tp Tp 0
 replace kY8 := blk_tp kY8 Tp 0
 replace fY9 := fY9.tp Tp 0
 replace kY9 := blk_tp kY9 Tp 0
 replace fY10 := fY10.tp Tp 0
 replace kY10 := blk_tp kY10 Tp 0
 replace B := B.tp Tp 0
 have s43 : w42.heap.size <= (Tt.tp w42 Tp 0).heap.size := Nat.le_refl _
 generalize Tt.tp w42 Tp 0 = w43 at B h1 h2 h3 fY1 kY1 fY2 kY2 fY3 kY3 R G7 fY8 kY8 fY9 kY9 fY10 kY10 s43 ⊢
 have once44 : True := trivial
 go_wp2_with (go_at_call 29; clear once44; refine (markServed_u (1) G7 G7l (by omega)).mono ?_; rintro e w44 ⟨rfl, fm14, b44⟩)
 have s44 := b44.size
 clear G7
 replace h1 := h1.chg b44 (by omega)
 replace h2 := h2.chg b44 (by omega)
 replace h3 := h3.chg b44 (by omega)
 replace fY1 := fY1.chg b44 (by omega)
 replace kY1 := blk_chg kY1 b44 (by omega)
 replace fY2 := fY2.chg b44 (by omega)
 replace kY2 := blk_chg kY2 b44 (by omega)
 replace fY3 := fY3.chg b44 (by omega)
 replace kY3 := blk_chg kY3 b44 (by omega)
 replace R := R.chg b44 (by omega)
 replace fY8 := fY8.chg b44 (by omega)
 replace kY8 := blk_chg kY8 b44 (by omega)
 replace fY9 := fY9.chg b44 (by omega)
 replace kY9 := blk_chg kY9 b44 (by omega)
 replace fY10 := fY10.chg b44 (by omega)
 replace kY10 := blk_chg kY10 b44 (by omega)
 replace B := B.chg b44 (by omega) (by omega)
 clear b44
 go_wp2
 refine HQ.out _ _ ?_
 clear HQ
 refine JO.seq L hfo ?_
 refine JO.pieceQ L (by kernel_rfl) hfo (λ Tp Q HQ => ?_)
 simp only [rLA31, bodyLA, Tryd.f6, Option.getD_some]
 replace h1 := h1.tp Tp 0
 replace h2 := h2.tp Tp 0
 replace h3 := h3.tp Tp 0
 replace fY1 := fY1.tp Tp 0
 replace kY1 := blk_tp kY1 Tp 0
 replace fY2 := fY2.tp Tp 0
 replace kY2 := blk_tp kY2 Tp 0
 replace fY3 := fY3.tp Tp 0
 replace kY3 := blk_tp kY3 Tp 0
 replace R := R.tp Tp 0
 replace fY8 := fY8.tp Tp 0
 replace kY8 := blk_tp kY8 Tp 0
 replace fY9 := fY9.tp Tp 0
 replace kY9 := blk_tp kY9 Tp 0
 replace fY10 := fY10.tp Tp 0
 replace kY10 := blk_tp kY10 Tp 0
 replace fm14 := fm14.tp Tp 0
 replace B := B.tp Tp 0
 have s45 : w44.heap.size <= (Tt.tp w44 Tp 0).heap.size := Nat.le_refl _
 generalize Tt.tp w44 Tp 0 = w45 at B h1 h2 h3 fY1 kY1 fY2 kY2 fY3 kY3 R fY8 kY8 fY9 kY9 fY10 kY10 fm14 s45 ⊢
 go_wp2
 refine HQ.out _ _ ?_
 clear HQ
 refine JO.seq L hfo ?_
 refine JO.pieceQ L (by kernel_rfl) hfo (λ Tp Q HQ => ?_)
 simp only [rLA32, bodyLA, Tryd.f6, Option.getD_some]
 replace h1 := h1.tp Tp 0
 replace h2 := h2.tp Tp 0
 replace h3 := h3.tp Tp 0
 replace fY1 := fY1.tp Tp 0
 replace kY1 := blk_tp kY1 Tp 0
 replace fY2 := fY2.tp Tp 0
 replace kY2 := blk_tp kY2 Tp 0
 replace fY3 := fY3.tp Tp 0
 replace kY3 := blk_tp kY3 Tp 0
 replace R := R.tp Tp 0
 replace fY8 := fY8.tp Tp 0
 replace kY8 := blk_tp kY8 Tp 0
 replace fY9 := fY9.tp Tp 0
 replace kY9 := blk_tp kY9 Tp 0
 replace fY10 := fY10.tp Tp 0
 replace kY10 := blk_tp kY10 Tp 0
 replace fm14 := fm14.tp Tp 0
 replace B := B.tp Tp 0
 have s46 : w45.heap.size <= (Tt.tp w45 Tp 0).heap.size := Nat.le_refl _
 generalize Tt.tp w45 Tp 0 = w46 at B h1 h2 h3 fY1 kY1 fY2 kY2 fY3 kY3 R fY8 kY8 fY9 kY9 fY10 kY10 fm14 s46 ⊢
 have once47 : True := trivial
 go_wp2_with (go_at_call 30; clear once47; refine (heldServed_u 1 fm14 G7l (by omega)).mono ?_; rintro e w47 ⟨rfl, b47⟩)
 have s47 := b47.size
 replace h1 := h1.below b47
 replace h2 := h2.below b47
 replace h3 := h3.below b47
 replace fY1 := fY1.below b47
 replace kY1 := (blk_below b47 kY1).1
 replace fY2 := fY2.below b47
 replace kY2 := (blk_below b47 kY2).1
 replace fY3 := fY3.below b47
 replace kY3 := (blk_below b47 kY3).1
 replace R := R.below b47
 replace fY8 := fY8.below b47
 replace kY8 := (blk_below b47 kY8).1
 replace fY9 := fY9.below b47
 replace kY9 := (blk_below b47 kY9).1
 replace fY10 := fY10.below b47
 replace kY10 := (blk_below b47 kY10).1
 replace fm14 := fm14.below b47
 replace B := B.below' b47 (by omega)
 clear b47
 go_wp2
 refine HQ.out _ _ ?_
 clear HQ
 refine JO.seq L hfo ?_
 refine JO.pieceQ L (by kernel_rfl) hfo (λ Tp Q HQ => ?_)
 simp only [qLA33, bodyLA, Tryd.f6, Option.getD_some]
 replace h1 := h1.tp Tp 0
 replace h2 := h2.tp Tp 0
 replace h3 := h3.tp Tp 0
 replace fY1 := fY1.tp Tp 0
 replace kY1 := blk_tp kY1 Tp 0
 replace fY2 := fY2.tp Tp 0
 replace kY2 := blk_tp kY2 Tp 0
 replace fY3 := fY3.tp Tp 0
 replace kY3 := blk_tp kY3 Tp 0
 replace R := R.tp Tp 0
 replace fY8 := fY8.tp Tp 0
 replace kY8 := blk_tp kY8 Tp 0
 replace fY9 := fY9.tp Tp 0
 replace kY9 := blk_tp kY9 Tp 0
 replace fY10 := fY10.tp Tp 0
 replace kY10 := blk_tp kY10 Tp 0
 replace fm14 := fm14.tp Tp 0
 replace B := B.tp Tp 0
 have s48 : w47.heap.size <= (Tt.tp w47 Tp 0).heap.size := Nat.le_refl _
 generalize Tt.tp w47 Tp 0 = w48 at B h1 h2 h3 fY1 kY1 fY2 kY2 fY3 kY3 R fY8 kY8 fY9 kY9 fY10 kY10 fm14 s48 ⊢
 go_wp2
 refine HQ.out _ _ ?_
 clear HQ
 refine JO.seq L hfo ?_
 refine JO.pieceQ L (by kernel_rfl) hfo (λ Tp Q HQ => ?_)
 simp only [qLA35, bodyLA, Tryd.f6, Option.getD_some]
 replace h1 := h1.tp Tp 0
 replace h2 := h2.tp Tp 0
 replace h3 := h3.tp Tp 0
 replace fY1 := fY1.tp Tp 0
 replace kY1 := blk_tp kY1 Tp 0
 replace fY2 := fY2.tp Tp 0
 replace kY2 := blk_tp kY2 Tp 0
 replace fY3 := fY3.tp Tp 0
 replace kY3 := blk_tp kY3 Tp 0
 replace R := R.tp Tp 0
 replace fY8 := fY8.tp Tp 0
 replace kY8 := blk_tp kY8 Tp 0
 replace fY9 := fY9.tp Tp 0
 replace kY9 := blk_tp kY9 Tp 0
 replace fY10 := fY10.tp Tp 0
 replace kY10 := blk_tp kY10 Tp 0
 replace fm14 := fm14.tp Tp 0
 replace B := B.tp Tp 0
 have s49 : w48.heap.size <= (Tt.tp w48 Tp 0).heap.size := Nat.le_refl _
 generalize Tt.tp w48 Tp 0 = w49 at B h1 h2 h3 fY1 kY1 fY2 kY2 fY3 kY3 R fY8 kY8 fY9 kY9 fY10 kY10 fm14 s49 ⊢
 go_wp2
 refine HQ.out _ _ ?_
 clear HQ
 refine JO.seq L hfo ?_
 generalize hk0 : ([Item.code _] : List Item) = K0
 rw [rLA37_eq]
 refine JO.reg L hfo ?_
 rw [opsLA37_range]
 refine JO.opv L (v := .slice A1 n1 c1) hfo opsLA37_0 rfl (λ T e => rfl) ?_
 simp only [Go.Act.put, List.setIfInBounds_toArray, List.set_cons_zero, List.set_cons_succ]
 refine JO.callV L (xs := #[.slice A1 n1 c1]) (Q := ToV 3 1 (ints rooms) w49 n1) rfl rfl opsLA37_1 rfl rfl (by kernel_rfl) hfo (by kernel_rfl) (by simp [Fm.eval]) (λ v w' T e h => ToV.tp h T e) (toInt_q h1 l1) (λ v w50 hq => ?_)
 obtain ⟨pY15, qY15, rfl, gY15, kY15, jY15, fY15, b50⟩ := hq
 have s50 := b50.size
 replace h1 := h1.bls b50 (Nat.le_refl _)
 replace h2 := h2.bls b50 (Nat.le_refl _)
 replace h3 := h3.bls b50 (Nat.le_refl _)
 replace fY1 := fY1.bls b50 (Nat.le_refl _)
 replace kY1 := blk_bl b50 kY1 (blk_lt kY1)
 replace fY2 := fY2.bls b50 (Nat.le_refl _)
 replace kY2 := blk_bl b50 kY2 (blk_lt kY2)
 replace fY3 := fY3.bls b50 (Nat.le_refl _)
 replace kY3 := blk_bl b50 kY3 (blk_lt kY3)
 replace R := R.bls b50 (Nat.le_refl _)
 replace fY8 := fY8.bls b50 (Nat.le_refl _)
 replace kY8 := blk_bl b50 kY8 (blk_lt kY8)
 replace fY9 := fY9.bls b50 (Nat.le_refl _)
 replace kY9 := blk_bl b50 kY9 (blk_lt kY9)
 replace fY10 := fY10.bls b50 (Nat.le_refl _)
 replace kY10 := blk_bl b50 kY10 (blk_lt kY10)
 replace fm14 := fm14.bls b50 (Nat.le_refl _)
 replace B := B.then b50 (by omega)
 clear b50
 have uY15 := blk_lt kY15
 simp only [Fm.fin, opsLA37_1, Option.bind_some, List.setIfInBounds_toArray, List.set_cons_zero, List.set_cons_succ]
 refine JO.opv L (v := .slice A2 n2 c2) hfo opsLA37_2 rfl (λ T e => rfl) ?_
 simp only [Go.Act.put, List.setIfInBounds_toArray, List.set_cons_zero, List.set_cons_succ]
 refine JO.callV L (xs := #[.slice A2 n2 c2]) (Q := ToV 34 3 (deeds ds) w50 n2) rfl rfl opsLA37_3 rfl rfl (by kernel_rfl) hfo (by kernel_rfl) (by simp [Fm.eval]) (λ v w' T e h => ToV.tp h T e) (toDeed_q h2 l2) (λ v w51 hq => ?_)
 obtain ⟨pY16, qY16, rfl, gY16, kY16, jY16, fY16, b51⟩ := hq
 have s51 := b51.size
 replace h1 := h1.bls b51 (Nat.le_refl _)
 replace h2 := h2.bls b51 (Nat.le_refl _)
 replace h3 := h3.bls b51 (Nat.le_refl _)
 replace fY1 := fY1.bls b51 (Nat.le_refl _)
 replace kY1 := blk_bl b51 kY1 (blk_lt kY1)
 replace fY2 := fY2.bls b51 (Nat.le_refl _)
 replace kY2 := blk_bl b51 kY2 (blk_lt kY2)
 replace fY3 := fY3.bls b51 (Nat.le_refl _)
 replace kY3 := blk_bl b51 kY3 (blk_lt kY3)
 replace R := R.bls b51 (Nat.le_refl _)
 replace fY8 := fY8.bls b51 (Nat.le_refl _)
 replace kY8 := blk_bl b51 kY8 (blk_lt kY8)
 replace fY9 := fY9.bls b51 (Nat.le_refl _)
 replace kY9 := blk_bl b51 kY9 (blk_lt kY9)
 replace fY10 := fY10.bls b51 (Nat.le_refl _)
 replace kY10 := blk_bl b51 kY10 (blk_lt kY10)
 replace fm14 := fm14.bls b51 (Nat.le_refl _)
 replace fY15 := fY15.bls b51 (Nat.le_refl _)
 replace kY15 := blk_bl b51 kY15 (blk_lt kY15)
 replace B := B.then b51 (by omega)
 clear b51
 have uY16 := blk_lt kY16
 simp only [Fm.fin, opsLA37_3, Option.bind_some, List.setIfInBounds_toArray, List.set_cons_zero, List.set_cons_succ]
 refine JO.opv L (v := .slice A3 n3 c3) hfo opsLA37_4 rfl (λ T e => rfl) ?_
 simp only [Go.Act.put, List.setIfInBounds_toArray, List.set_cons_zero, List.set_cons_succ]
 refine JO.callV L (xs := #[.slice A3 n3 c3]) (Q := ToV 34 3 (deeds ts) w51 n3) rfl rfl opsLA37_5 rfl rfl (by kernel_rfl) hfo (by kernel_rfl) (by simp [Fm.eval]) (λ v w' T e h => ToV.tp h T e) (toDeed_q h3 l3) (λ v w52 hq => ?_)
 obtain ⟨pY17, qY17, rfl, gY17, kY17, jY17, fY17, b52⟩ := hq
 have s52 := b52.size
 replace h1 := h1.bls b52 (Nat.le_refl _)
 replace h2 := h2.bls b52 (Nat.le_refl _)
 replace h3 := h3.bls b52 (Nat.le_refl _)
 replace fY1 := fY1.bls b52 (Nat.le_refl _)
 replace kY1 := blk_bl b52 kY1 (blk_lt kY1)
 replace fY2 := fY2.bls b52 (Nat.le_refl _)
 replace kY2 := blk_bl b52 kY2 (blk_lt kY2)
 replace fY3 := fY3.bls b52 (Nat.le_refl _)
 replace kY3 := blk_bl b52 kY3 (blk_lt kY3)
 replace R := R.bls b52 (Nat.le_refl _)
 replace fY8 := fY8.bls b52 (Nat.le_refl _)
 replace kY8 := blk_bl b52 kY8 (blk_lt kY8)
 replace fY9 := fY9.bls b52 (Nat.le_refl _)
 replace kY9 := blk_bl b52 kY9 (blk_lt kY9)
 replace fY10 := fY10.bls b52 (Nat.le_refl _)
 replace kY10 := blk_bl b52 kY10 (blk_lt kY10)
 replace fm14 := fm14.bls b52 (Nat.le_refl _)
 replace fY15 := fY15.bls b52 (Nat.le_refl _)
 replace kY15 := blk_bl b52 kY15 (blk_lt kY15)
 replace fY16 := fY16.bls b52 (Nat.le_refl _)
 replace kY16 := blk_bl b52 kY16 (blk_lt kY16)
 replace B := B.then b52 (by omega)
 clear b52
 have uY17 := blk_lt kY17
 simp only [Fm.fin, opsLA37_5, Option.bind_some, List.setIfInBounds_toArray, List.set_cons_zero, List.set_cons_succ]
 refine JO.opv L (v := .int .i64 tn) hfo opsLA37_6 rfl (λ T e => rfl) ?_
 simp only [Go.Act.put, List.setIfInBounds_toArray, List.set_cons_zero, List.set_cons_succ]
 refine jo_around (ops := opsLA37) (i := 7) (o := oLA37_7) (A1 := some ⟨pY15, 0, none⟩) (A2 := some ⟨pY16, 0, none⟩) (A3 := some ⟨pY17, 0, none⟩) (rooms := rooms) (ds := ds) (ts := ts) (tn := tn) rfl hfo rfl opsLA37_7 rfl rfl (by simp [Fm.eval]) (fY15.slc.wide (Nat.zero_le _) (by omega)) (fY16.slc.wide (Nat.zero_le _) (by omega)) (fY17.slc.wide (Nat.zero_le _) (by omega)) l1 l2 l3 (hT.bls B (Nat.le_refl _)) (hTU.bls B (Nat.le_refl _)) (blkU_mk kY15 jY15 ints_plain) (blkU_mk kY16 jY16 deeds_plain) (blkU_mk kY17 jY17 deeds_plain) (λ w53 G18A G18n G18c b53 G18 => ?_)
 have s53 := b53.size
 replace h1 := h1.bls b53 (Nat.le_refl _)
 replace h2 := h2.bls b53 (Nat.le_refl _)
 replace h3 := h3.bls b53 (Nat.le_refl _)
 replace fY1 := fY1.bls b53 (Nat.le_refl _)
 replace kY1 := blk_bl b53 kY1 (blk_lt kY1)
 replace fY2 := fY2.bls b53 (Nat.le_refl _)
 replace kY2 := blk_bl b53 kY2 (blk_lt kY2)
 replace fY3 := fY3.bls b53 (Nat.le_refl _)
 replace kY3 := blk_bl b53 kY3 (blk_lt kY3)
 replace R := R.bls b53 (Nat.le_refl _)
 replace fY8 := fY8.bls b53 (Nat.le_refl _)
 replace kY8 := blk_bl b53 kY8 (blk_lt kY8)
 replace fY9 := fY9.bls b53 (Nat.le_refl _)
 replace kY9 := blk_bl b53 kY9 (blk_lt kY9)
 replace fY10 := fY10.bls b53 (Nat.le_refl _)
 replace kY10 := blk_bl b53 kY10 (blk_lt kY10)
 replace fm14 := fm14.bls b53 (Nat.le_refl _)
 replace fY15 := fY15.bls b53 (Nat.le_refl _)
 replace kY15 := blk_bl b53 kY15 (blk_lt kY15)
 replace fY16 := fY16.bls b53 (Nat.le_refl _)
 replace kY16 := blk_bl b53 kY16 (blk_lt kY16)
 replace fY17 := fY17.bls b53 (Nat.le_refl _)
 replace kY17 := blk_bl b53 kY17 (blk_lt kY17)
 replace B := B.then b53 (by omega)
 clear b53
 rw [<- srvs_svds] at G18
 have G18l : G18n <= 1048576 := by have := G18.slc.srvsLen; have := HLEN.out; omega
 simp only [Fm.fin, opsLA37_7, Option.bind_some, List.setIfInBounds_toArray, List.set_cons_zero, List.set_cons_succ]
 refine JO.opv L (v := .tuple #[.slice G18A G18n G18c, .bool (servedF rooms ds ts tn true).2]) hfo opsLA37_8 rfl (λ T e => rfl) ?_
 simp only [Go.Act.put, List.setIfInBounds_toArray, List.set_cons_zero, List.set_cons_succ]
 refine JO.opv L (v := .slice G18A G18n G18c) hfo opsLA37_9 rfl (λ T e => rfl) ?_
 simp only [Go.Act.put, List.setIfInBounds_toArray, List.set_cons_zero, List.set_cons_succ]
 refine JO.opv L (v := .bool (servedF rooms ds ts tn true).2) hfo opsLA37_10 rfl (λ T e => rfl) ?_
 simp only [Go.Act.put, List.setIfInBounds_toArray, List.set_cons_zero, List.set_cons_succ]
 refine JO.opv L (v := .slice G18A G18n G18c) hfo opsLA37_11 rfl (λ T e => rfl) ?_
 simp only [Go.Act.put, List.setIfInBounds_toArray, List.set_cons_zero, List.set_cons_succ]
 refine JO.opv L (v := .bool (servedF rooms ds ts tn true).2) hfo opsLA37_12 rfl (λ T e => rfl) ?_
 simp only [Go.Act.put, List.setIfInBounds_toArray, List.set_cons_zero, List.set_cons_succ]
 refine JO.regEnd L hfo ?_
 subst hk0
 refine JO.tailQ L (by kernel_rfl) hfo (λ Tp Q HQ => ?_)
 simp only [tLA, bodyLA, Tryd.f6, Option.getD_some]
 replace h1 := h1.tp Tp 0
 replace h2 := h2.tp Tp 0
 replace h3 := h3.tp Tp 0
 replace fY1 := fY1.tp Tp 0
 replace kY1 := blk_tp kY1 Tp 0
 replace fY2 := fY2.tp Tp 0
 replace kY2 := blk_tp kY2 Tp 0
 replace fY3 := fY3.tp Tp 0
 replace kY3 := blk_tp kY3 Tp 0
 replace R := R.tp Tp 0
 replace fY8 := fY8.tp Tp 0
 replace kY8 := blk_tp kY8 Tp 0
 replace fY9 := fY9.tp Tp 0
 replace kY9 := blk_tp kY9 Tp 0
 replace fY10 := fY10.tp Tp 0
 replace kY10 := blk_tp kY10 Tp 0
 replace fm14 := fm14.tp Tp 0
 replace fY15 := fY15.tp Tp 0
 replace kY15 := blk_tp kY15 Tp 0
 replace fY16 := fY16.tp Tp 0
 replace kY16 := blk_tp kY16 Tp 0
 replace fY17 := fY17.tp Tp 0
 replace kY17 := blk_tp kY17 Tp 0
 replace G18 := G18.tp Tp 0
 replace B := B.tp Tp 0
 have s54 : w53.heap.size <= (Tt.tp w53 Tp 0).heap.size := Nat.le_refl _
 generalize Tt.tp w53 Tp 0 = w54 at B h1 h2 h3 fY1 kY1 fY2 kY2 fY3 kY3 R fY8 kY8 fY9 kY9 fY10 kY10 fm14 fY15 kY15 fY16 kY16 fY17 kY17 G18 s54 ⊢
 have once55 : True := trivial
 go_wp2_with (go_at_call 24; clear once55; refine (eqServed_u G18.slc R.slc G18l Rl).mono ?_; rintro e w55 ⟨rfl, b55⟩; rw [HEQ.out])
 have s55 := b55.size
 replace h1 := h1.below b55
 replace h2 := h2.below b55
 replace h3 := h3.below b55
 replace fY1 := fY1.below b55
 replace kY1 := (blk_below b55 kY1).1
 replace fY2 := fY2.below b55
 replace kY2 := (blk_below b55 kY2).1
 replace fY3 := fY3.below b55
 replace kY3 := (blk_below b55 kY3).1
 replace R := R.below b55
 replace fY8 := fY8.below b55
 replace kY8 := (blk_below b55 kY8).1
 replace fY9 := fY9.below b55
 replace kY9 := (blk_below b55 kY9).1
 replace fY10 := fY10.below b55
 replace kY10 := (blk_below b55 kY10).1
 replace fm14 := fm14.below b55
 replace fY15 := fY15.below b55
 replace kY15 := (blk_below b55 kY15).1
 replace fY16 := fY16.below b55
 replace kY16 := (blk_below b55 kY16).1
 replace fY17 := fY17.below b55
 replace kY17 := (blk_below b55 kY17).1
 replace G18 := G18.below b55
 replace B := B.below' b55 (by omega)
 clear b55
 have once56 : True := trivial
 go_wp2_with (go_at_call 30; clear once56; refine (heldServed_u 1 fm14 G7l (by omega)).mono ?_; rintro e w56 ⟨rfl, b56⟩)
 have s56 := b56.size
 replace h1 := h1.below b56
 replace h2 := h2.below b56
 replace h3 := h3.below b56
 replace fY1 := fY1.below b56
 replace kY1 := (blk_below b56 kY1).1
 replace fY2 := fY2.below b56
 replace kY2 := (blk_below b56 kY2).1
 replace fY3 := fY3.below b56
 replace kY3 := (blk_below b56 kY3).1
 replace R := R.below b56
 replace fY8 := fY8.below b56
 replace kY8 := (blk_below b56 kY8).1
 replace fY9 := fY9.below b56
 replace kY9 := (blk_below b56 kY9).1
 replace fY10 := fY10.below b56
 replace kY10 := (blk_below b56 kY10).1
 replace fm14 := fm14.below b56
 replace fY15 := fY15.below b56
 replace kY15 := (blk_below b56 kY15).1
 replace fY16 := fY16.below b56
 replace kY16 := (blk_below b56 kY16).1
 replace fY17 := fY17.below b56
 replace kY17 := (blk_below b56 kY17).1
 replace G18 := G18.below b56
 replace B := B.below' b56 (by omega)
 clear b56
 go_wp2
 refine HQ.out _ _ (λ todo => ?_)
 exact hend _ _ _ rfl
end
end Go.Proofs.YtkfafknliihabaaDoor
namespace Go.Proofs.YtkfafknliihabaaDoor
theorem holds_tied_goes (Lk : Looks) {p : Pinned} {s : OpenSpec} {c : OpenClaim} (kinds : List LaidKind) (tests : Bool) (har : Bool × String) (lk : Bool)
  (hc : c.holds p s) (hw : c.wfByText s = true) (htie : c.laidByTextAt Lk p kinds tests)
  (hst : c.start = .entering) (hnb : c.noBlocks = false /\ c.again = false) (hm : p.checked.prog.mainIs = some (har.1, har.2.toList)) (hn : (!har.1 && har.2.isEmpty && !lk) = false)
  (hl : ∀ f fn, p.checked.prog.funcNamed c.func = some f -> p.checked.prog.funcs[f]? = some fn -> lk = p.checked.prog.looks [] /\ ∀ (j : Nat) t, fn.params[j]? = some t -> p.checked.prog.wantsStandIn t = false)
  (hg : true = c.goesBy p.checked.prog) :
  Claim7.holds p (.plain s) { stood := { row := c, standIns := [], harness := har, looks := lk }, kinds := [], alts := [], goes := true, laidByText := true, laidKinds := kinds, laidTests := tests, laidLooks := Lk } := by
 have h6 : ∀ r : OpenClaim, Claim7.isSixth { stood := { row := r, standIns := [], harness := har, looks := lk }, kinds := [] } = false := λ r => by simpa [Claim7.isSixth] using hn
 have h := Claim7.tied_new_at Lk kinds tests (Claim7.new_of_sixth hc har lk hst hnb hm (h6 c) hl) hw
 exact ⟨h, (λ D hD => by cases hD), htie, (λ h => by cases h), hg⟩
end Go.Proofs.YtkfafknliihabaaDoor
