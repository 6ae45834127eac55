/-
  The bills of BillsOf, in a map of the call's own.
  The bills of the records so far.
  The program's BillsOf, judged whole.
-/
import Derived.Test.YtjcpjijihajopaaBillS
import Derived.Test.YtjcpjijihajopaaBsy
set_option linter.unusedSectionVars false
set_option linter.unusedSimpArgs false
set_option linter.unusedVariables false
namespace Go.Proofs.Ytjcpjijihajopaa
open Go.RowKit
set_option linter.unusedVariables false
section
variable {w W W' : World} {a0 a1 a2 a3 : Addr} {v0 v1 v2 v3 : Value}
theorem heldc4_below (hb : Below W.heap.size W W') (h : W.cell? a0 = some v0 ∧ W.cell? a1 = some v1 ∧ W.cell? a2 = some v2 ∧ W.cell? a3 = some v3) : W'.cell? a0 = some v0 ∧ W'.cell? a1 = some v1 ∧ W'.cell? a2 = some v2 ∧ W'.cell? a3 = some v3 := by
  have e : ∀ {a : Addr} {v : Value}, W.cell? a = some v → W'.cell? a = some v := fun {a v} hv => (World.cell?_of_block (hb.block _ (World.block_lt_of_cell? W _ hv))).trans hv
  obtain ⟨h0, h1, h2, h3⟩ := h
  exact ⟨e h0, e h1, e h2, e h3⟩
theorem heldc4_drew (h : W.cell? a0 = some v0 ∧ W.cell? a1 = some v1 ∧ W.cell? a2 = some v2 ∧ W.cell? a3 = some v3) : W.drew.cell? a0 = some v0 ∧ W.drew.cell? a1 = some v1 ∧ W.drew.cell? a2 = some v2 ∧ W.drew.cell? a3 = some v3 := h
end
abbrev MB : TypeId := 65
theorem zeroB (w : World) : (zeroValue 48).run Try.prog w = .ok zeroBill w := by kernel_rfl
theorem IntMap.keep {w w' : World} {b : Nat} {ps : List (Int × Value)} (h : IntMap w b ps) (e : w'.heap[b]? = w.heap[b]?) : IntMap w' b ps := by
  obtain ⟨es, cl, hb, he⟩ := h
  exact ⟨es, cl, e.trans hb, he⟩
theorem IntMap.lt {w : World} {b : Nat} {ps : List (Int × Value)} (h : IntMap w b ps) : b < w.heap.size := by
  obtain ⟨es, cl, hb, he⟩ := h
  exact blk_lt hb
theorem im_upd {W : World} {gm : Nat} {ps : List (Int × Value)} (h : IntMap W gm ps) (c : Int) (v : Value) :
    ∃ W', (Instr.mapUpdate MB (.map (some gm)) (.int .i64 c) v).run Try.prog W = .ok () W' ∧ IntMap W' gm (putI c v ps) ∧ W.grownBy W' (some gm) := by
  obtain ⟨es, cl, hr, hm⟩ := run_update_im Try.underlying65 Try.underlying3 h (c := c) v
  exact ⟨_, hr, hm, ⟨rfl, rfl, rfl, by simp, fun i _ hne => by simp; rw [Array.getElem?_setIfInBounds_ne (fun e => hne (by rw [e]))]⟩⟩
theorem im_look {W : World} {gm : Nat} {ps : List (Int × Value)} (h : IntMap W gm ps) (c : Int) (ok : Bool) :
    (Instr.lookup MB (.map (some gm)) (.int .i64 c) ok).run Try.prog W = .ok (if ok then .tuple #[(lookI c ps).getD zeroBill, .bool (lookI c ps).isSome] else (lookI c ps).getD zeroBill) W :=
  run_lookup_im Try.underlying65 Try.underlying3 (zeroB W) h ok
set_option maxHeartbeats 8000000 in
set_option maxRecDepth 20000 in
theorem bills1_any (T : Trf) (d : RecD) (b : BillD) (x : Int) (g2 g6 gm : Nat) (ps : List (Int × Value)) (w : World) (hT : T.ok = true) (hr0 : recOk d = true) (h2 : w.heap[g2]? = some (trfO T)) (h6 : w.heap[g6]? = some (.cells #[.map (some gm)] MB)) (hm : IntMap w gm ps) (n2 : g2 ≠ gm) (n6 : g6 ≠ gm)
    (hdn : isDone d = true) (hc : (lookI d.c ps).getD zeroBill = .agg #[.int .i64 x, .int .i64 b.t, .int .i64 b.m, .int .i64 b.g]) (hb : 0 ≤ b.t ∧ b.t ≤ 60 ∧ 0 ≤ b.m ∧ b.m ≤ 216000 ∧ 0 ≤ b.g ∧ b.g ≤ 219600000) :
    Calls Try.prog 46 #[.agg #[.int .i64 d.c, .int .i64 d.l, .int .i64 d.o, .int .i64 d.f, .int .i64 d.h, .int .i64 d.t, .string d.e], .pointer (some ⟨g6, 0, none⟩), .pointer (some ⟨g2, 0, none⟩)] w fun e w' => e = .returned (.tuple #[]) ∧ IntMap w' gm (putI d.c (BillD.val ⟨d.c, b.t + 1, b.m + talkD d, b.g + chargeF T.f T.s T.p (talkD d)⟩) ps) ∧ w.grownBy w' (some gm) := by
  have hdn' : (d.e.toList == [100, 111, 110, 101]) = true := hdn
  have htb := talk_bound hr0
  have hcb := chargeF_bounds (m := talkD d) hT (htb.2 hdn) htb.1
  have htk0 := htb.2 hdn
  obtain ⟨tk, htk⟩ : ∃ y, y = talkD d := ⟨_, rfl⟩
  obtain ⟨cg, hcg⟩ : ∃ y, y = chargeF T.f T.s T.p tk := ⟨_, rfl⟩
  rw [← htk] at htb hcb htk0 ⊢
  rw [← hcg] at hcb ⊢
  have HTK := Lib.hid htk
  have HCG := Lib.hid hcg
  have htk1 := htb.1
  clear htk hcg
  have X1 := (IntWalk.i64_left _).trans (IntWalk.wrap64_in (b.t + 1) (by omega))
  have X2 := (IntWalk.i64_left _).trans (IntWalk.wrap64_in (b.m + tk) (by omega))
  have X3 := (IntWalk.i64_left _).trans (IntWalk.wrap64_in (b.g + cg) (by omega))
  have HB1 := Lib.hid (And.intro htk0 (And.intro htb hcb))
  clear hcb htb hb htk0 htk1
  obtain ⟨o, ho⟩ : ∃ o : Obj, o = .cells #[.int .i64 d.c, .int .i64 d.l, .int .i64 d.o, .int .i64 d.f, .int .i64 d.h, .int .i64 d.t, .string d.e] 50 := ⟨_, rfl⟩
  obtain ⟨r, hrr⟩ : ∃ r, r = w.heap.size := ⟨_, rfl⟩
  have hr : (w.alloc o).heap[r]? = some (.cells #[.int .i64 d.c, .int .i64 d.l, .int .i64 d.o, .int .i64 d.f, .int .i64 d.h, .int .i64 d.t, .string d.e] 50) := by rw [← ho, hrr]; exact heap_alloc_new _ _
  have hm1 : IntMap (w.alloc o) gm ps := hm.keep (Below.heap_alloc w o gm hm.lt)
  have h21 := blk_alloc h2 o
  have h61 := blk_alloc h6 o
  have hzw : (w.alloc o).heap.size = r + 1 := by rw [hrr]; simp
  have hgm := hm.lt
  have hg2 := blk_lt h2
  have hg6 := blk_lt h6
  rw [← hrr] at hgm hg2 hg6
  have G0 : w.grownBy (w.alloc o) (some gm) := World.grownBy_alloc w o _
  have HR := Lib.hid hr
  have HG := Lib.hid G0
  have H2 := Lib.hid h21
  have H6 := Lib.hid h61
  have HM := Lib.hid hm1
  have HO := Lib.hid ho
  have HRR := Lib.hid hrr
  have HC := Lib.hid hc
  have HZ := Lib.hid hzw
  clear hm h2 h6 hr hm1 h21 h61 G0 ho hrr hc hzw
  go_enter Try.func46, Try.ntmps46
  go_wp2_with fail
  rw [← HO.out, ← HRR.out]
  refine (impl_TalkMinutes _ _ _ _ _ _ _ _).mono ?_
  rintro e w2 ⟨rfl, b2⟩
  have ht2 : talkF d.c d.l d.o d.f d.h d.t d.e.toList = tk := HTK.out.symm
  rw [ht2]
  have hm2 := HM.out.keep (b2.block gm HM.out.lt)
  have h62 := (blk_below b2 H6.out).1
  have h22 := (blk_below b2 H2.out).1
  have hr2 := (blk_below b2 HR.out).1
  have hz2 : r + 1 ≤ w2.heap.size := by have := b2.size; have := HZ.out; omega
  have HG2 := Lib.hid (show (w.alloc o).grownBy w2 (some gm) from ⟨b2.os, b2.tape, b2.output, b2.size, fun i hi _ => b2.block i hi⟩)
  have e6 := blk_cell h62 0
  have er := blk_cell hr2 0
  have er1 := blk_cell (blk_alloc hr2 (billO x b.t b.m b.g)) 0
  have hlk := im_look hm2 d.c false
  rw [if_neg (by simp), HC.out] at hlk
  obtain ⟨nb, hnb⟩ : ∃ y, y = w2.heap.size := ⟨_, rfl⟩
  have D0 : InSt (w2.alloc (billO x b.t b.m b.g)) nb x b.t b.m b.g (w2.alloc (billO x b.t b.m b.g)) := ⟨by rw [hnb]; exact heap_alloc_new _ _, World.grownBy.refl _ _⟩
  have HD0 := Lib.hid D0
  have HNB := Lib.hid hnb
  have HM2 := Lib.hid hm2
  have H22 := Lib.hid h22
  have H62 := Lib.hid h62
  have HR2 := Lib.hid hr2
  have hm2' := hm2
  clear b2 hm2 h62 h22 hr2 D0 hnb
  go_upto_region 7 with fail
  rw [← HNB.out]
  obtain ⟨W3, hW3⟩ : ∃ y, y = w2.alloc (billO d.c (b.t + 1) (b.m + tk) b.g) := ⟨_, rfl⟩
  rw [← hW3]
  have kg : W3.heap[nb]? = some (billO d.c (b.t + 1) (b.m + tk) b.g) := by rw [hW3, HNB.out]; exact heap_alloc_new _ _
  have hmz := hm2'.lt
  have HM3 := Lib.hid (show IntMap W3 gm ps by rw [hW3]; exact HM2.out.keep (Below.heap_alloc _ _ gm hmz))
  have kt : W3.heap[g2]? = some (trfO T) := by rw [hW3]; exact blk_alloc H22.out _
  have H63 := Lib.hid (show W3.heap[g6]? = some (.cells #[.map (some gm)] MB) by rw [hW3]; exact blk_alloc H62.out _)
  have HR3 := Lib.hid (show W3.heap[r]? = some (.cells #[.int .i64 d.c, .int .i64 d.l, .int .i64 d.o, .int .i64 d.f, .int .i64 d.h, .int .i64 d.t, .string d.e] 50) by rw [hW3]; exact blk_alloc HR2.out _)
  have HG3 := Lib.hid (show w2.grownBy W3 (some gm) by rw [hW3]; exact World.grownBy_alloc w2 _ _)
  have n2b : g2 ≠ nb := by have := HNB.out; omega
  have n6b : g6 ≠ nb := by have := HNB.out; omega
  have nrb : r ≠ nb := by have := HNB.out; omega
  have nmb : gm ≠ nb := by have := HNB.out; omega
  have HIN := Lib.hid (show InSt W3 nb d.c (b.t + 1) (b.m + tk) b.g W3 from ⟨kg, World.grownBy.refl _ _⟩)
  have HTT := Lib.hid kt
  have htb0 := HB1.out.1
  have htb1 := HB1.out.2.1.1
  have eg := blk_cell kg
  have fg := blk_frozen' kg
  have zg := blk_lt kg
  have et0 := blk_cell kt 0
  have et1 := blk_cell kt 1
  have et2 := blk_cell kt 2
  clear hW3 hz2 hgm hg2 hg6 hmz hlk e6 er er1 hm2'
  go_cut [] from 27 to 33 (fun wx => InSt W3 nb d.c (b.t + 1) (b.m + tk) (b.g + cg) wx)
  case first =>
    go_region_with (go_at_call 27; refine (impl_ChargeOf_yes _ _ _ _ _ hT htb0 htb1).mono ?_; rintro y w3 ⟨rfl, b3⟩; rw [show chargeF T.f T.s T.p tk = cg from HCG.out.symm]; have D3 := (HIN.out.drew).below b3; have kg := D3.blk; have eg := blk_cell kg; have fg := blk_frozen' kg; have zg := blk_lt kg)
    all_goals
      go_wp2_with fail
      go_meet
      exact D3.set rfl
  case rest =>
    clear kg eg fg zg et0 et1 et2 kt
    have D4 := hcut
    clear hcut
    have kg := D4.blk
    have g0 := blk_cell kg 0
    have g1 := blk_cell kg 1
    have g2' := blk_cell kg 2
    have g3 := blk_cell kg 3
    have e6 := blk_cell (D4.other H63.out n6b) 0
    have er := blk_cell (D4.other HR3.out nrb) 0
    have hm4 := HM3.out.keep (D4.gr.block gm HM3.out.lt (fun e => nmb (by injection e)))
    obtain ⟨w5, hup, hm5, hg5⟩ := im_upd hm4 d.c (BillD.val ⟨d.c, b.t + 1, b.m + tk, b.g + cg⟩)
    simp only [BillD.val] at hup
    have K1 := Lib.hid hm5
    have K2 := Lib.hid hg5
    have K3 := Lib.hid (show w2.grownBy wc (some gm) from ⟨D4.gr.os.trans HG3.out.os, D4.gr.tape.trans HG3.out.tape, D4.gr.output.trans HG3.out.output, Nat.le_trans HG3.out.size D4.gr.size, fun i hi hne => (D4.gr.block i (by have := HG3.out.size; omega) (fun e => by injection e with e; have := HNB.out; omega)).trans (HG3.out.block i hi hne)⟩)
    clear hm5 hg5 hm4 kg D4
    go_wp2
    exact bodyPost_end (v := .tuple #[]) (results_none rfl _ _ _) rfl ⟨rfl, K1.out, (HG.out.trans HG2.out).trans (K3.out.trans K2.out)⟩
theorem bills1_no (d : RecD) (g2 g6 : Nat) (w : World) (hdn : isDone d = false) :
    Calls Try.prog 46 #[.agg #[.int .i64 d.c, .int .i64 d.l, .int .i64 d.o, .int .i64 d.f, .int .i64 d.h, .int .i64 d.t, .string d.e], .pointer (some ⟨g6, 0, none⟩), .pointer (some ⟨g2, 0, none⟩)] w fun e w' => e = .returned (.tuple #[]) ∧ Below w.heap.size w w' := by
  have hdn' : (d.e.toList == [100, 111, 110, 101]) = false := hdn
  go_enter Try.func46, Try.ntmps46
  go_wp2
  exact bodyPost_ret (v := .tuple #[]) (results_none rfl _ _ _) rfl ⟨rfl, below_al (Below.refl _ _) _⟩
end Go.Proofs.Ytjcpjijihajopaa
namespace Go.Proofs.Ytjcpjijihajopaa
open Go.RowKit Go.Mt Go.Conc Go.Tt Go.Maps
set_option linter.unusedVariables false
structure BillsI (T : Trf) (rs : List RecD) (g2 g6 gm B : Nat) (wb : World) (k : Nat) (w : World) : Prop where
  c2 : w.heap[g2]? = some (trfO T)
  c6 : w.heap[g6]? = some (.cells #[.map (some gm)] MB)
  m : ∃ ps, IntMap w gm ps ∧ BillsIn T (rs.take k) ps
  size : wb.heap.size ≤ w.heap.size
  old : ∀ b, b < B → w.heap[b]? = wb.heap[b]?
theorem billsI {T : Trf} {rs : List RecD} {g2 g6 gm B : Nat} {wb : World} (ho : billOk T rs = true) (n2 : g2 ≠ gm) (n6 : g6 ≠ gm) (hB : B ≤ gm ∧ B ≤ wb.heap.size) :
    EachI 46 #[.pointer (some ⟨g6, 0, none⟩), .pointer (some ⟨g2, 0, none⟩)] rs (BillsI T rs g2 g6 gm B wb) := by
  have hh := ho
  simp only [billOk, Bool.and_eq_true] at hh
  obtain ⟨hT, hv⟩ := hh
  obtain ⟨h60, hall⟩ := validR_parts hv
  refine ⟨fun k w T e h => ⟨h.c2, h.c6, h.m, h.size, h.old⟩, fun k w cs T h => ?_, fun k w d hd h => ?_⟩
  · obtain ⟨ps, h1, h2⟩ := h.m
    have hz := h.size
    exact ⟨blk_alloc h.c2 _, blk_alloc h.c6 _, ⟨ps, h1.keep (heap_push_lt h1.lt), h2⟩, by rw [size_push]; omega, fun b hb => (heap_push_lt (by omega)).trans (h.old b hb)⟩
  · obtain ⟨ps, h1, h2⟩ := h.m
    have hr := hall d (List.mem_of_getElem? hd)
    have hbd := billFor_bounds ho k d.c
    cases hdn : isDone d with
    | false =>
      refine (bills1_no d g2 g6 w hdn).mono ?_
      rintro e w' ⟨rfl, hb⟩
      have hz := h.size
      exact ⟨_, rfl, (blk_below hb h.c2).1, (blk_below hb h.c6).1, ⟨ps, h1.keep (hb.block gm h1.lt), billsIn_skip h2 hd hdn⟩, Nat.le_trans hz hb.size, fun b hbb => (hb.block b (by omega)).trans (h.old b hbb)⟩
    | true =>
      obtain ⟨x, hx⟩ := billsIn_get h2 d.c
      refine (bills1_any T d (billFor T (rs.take k) d.c) x g2 g6 gm ps w hT hr h.c2 h.c6 h1 n2 n6 hdn hx hbd).mono ?_
      rintro e w' ⟨rfl, hm, hg⟩
      exact ⟨_, rfl, (hg.block _ (blk_lt h.c2) (fun e => n2 (by injection e))).trans h.c2, (hg.block _ (blk_lt h.c6) (fun e => n6 (by injection e))).trans h.c6, ⟨_, hm, billsIn_put h2 hd hdn hbd.1⟩, Nat.le_trans h.size hg.size, fun b hb => (hg.block b (by have := h.size; omega) (fun e => by injection e with e; omega)).trans (h.old b hb)⟩
end Go.Proofs.Ytjcpjijihajopaa
namespace Go.Proofs.Ytjcpjijihajopaa
open Go.RowKit Go.Mt Go.Conc Go.Tt Go.Maps
set_option linter.unusedVariables false
noncomputable def bodyBS : Code := (Try.f20.body).getD .skip
noncomputable def rBS0 : Code := match bodyBS with | .seq (a) _ => a | _ => .skip
noncomputable def rBS1 : Code := match bodyBS with | .seq _ (.seq (.seq (a) _) _) => a | _ => .skip
noncomputable def rBS2 : Code := match bodyBS with | .seq _ (.seq (.seq _ (.cond _ (.seq (a) _) _)) _) => a | _ => .skip
noncomputable def rBS3 : Code := match bodyBS with | .seq _ (.seq _ (.seq (a) _)) => a | _ => .skip
noncomputable def rBS4 : Code := match bodyBS with | .seq _ (.seq _ (.seq _ (.seq (a) _))) => a | _ => .skip
noncomputable def kBS5 : Code := match bodyBS with | .seq _ (.seq _ (.seq _ (.seq _ (a)))) => a | _ => .skip
theorem bodyBS_eq : bodyBS = .seq (rBS0) (.seq (.seq (rBS1) (.cond (.tmp 18) (.seq (rBS2) (.ret)) (.skip))) (.seq (rBS3) (.seq (rBS4) (kBS5)))) := rfl
noncomputable def opsBS4 : Array Oper := match rBS4 with | .region _ ops _ => ops | _ => #[]
theorem rBS4_eq : rBS4 = .region 4 opsBS4 false := rfl
theorem opsBS4_range : List.range opsBS4.size = [0, 1, 2] := rfl
abbrev oBS4_0 : Oper := { dst := some 20, op := Go.Op.move (Go.Operand.tmp 1), type := 25, pos := "l8_bills.go:146", after := #[], guard := none }
theorem opsBS4_0 : opsBS4[0]? = some oBS4_0 := rfl
abbrev oBS4_1 : Oper := { dst := some 21, op := Go.Op.makeFunc (Go.Fn.func 46) #[] #[Go.Operand.tmp 6, Go.Operand.tmp 2], type := 61, pos := "l8_bills.go:146", after := #[], guard := none }
theorem opsBS4_1 : opsBS4[1]? = some oBS4_1 := rfl
abbrev oBS4_2 : Oper := { dst := some 22, op := Go.Op.call { callee := Go.Callee.value (Go.Operand.func 35), args := #[Go.Operand.tmp 20, Go.Operand.tmp 21], argTypes := #[25, 61] }, type := 0, pos := "l8_bills.go:146", after := #[{ on := 0, ground := Go.Ground.data }, { on := 1, ground := Go.Ground.data }], guard := none }
theorem opsBS4_2 : opsBS4[2]? = some oBS4_2 := rfl

theorem billO_wp {Q : Exit → Go.Act → World → Prop} {w : World} {ps : List (Int × Value)} {T : Trf} {rs : List RecD} {g6 gm : Nat} {u3 u7 u8 u9 u10 u11 u12 u13 u14 u15 u16 u17 u18 u19 u20 u21 u22 u23 u24 u25 u26 u27 u28 u29 u30 u31 u32 u33 u34 u35 u36 u37 u38 u39 v0 v1 v2 v4 v5 : Value}
    (h6 : w.heap[g6]? = some (.cells #[.map (some gm)] MB)) (hm : IntMap w gm ps) (hps : BillsIn T rs ps)
    (HQ : Hid (∀ u7 u8 u9 u10 u11 u12 u13 u14 u15 u16 u17 u18 u19 u20 u21 u22 u23 u24 u25 u26 u27 u28 u29 u30 u31 u32 u33 u34 u35 u36 u37 u38 u39 A n c w', OwnV 48 4 w' w.heap.size w'.heap.size A n c (bills (billsTo T rs 99)) → Below w.heap.size w w' → Q .ret ⟨#[v0, v1, v2, u3, .slice A n c, .bool true, .pointer (some ⟨g6, 0, none⟩), u7, u8, u9, u10, u11, u12, u13, u14, u15, u16, u17, u18, u19, u20, u21, u22, u23, u24, u25, u26, u27, u28, u29, u30, u31, u32, u33, u34, u35, u36, u37, u38, u39], []⟩ w')) :
    Code.wp Try.prog kBS5 Q ⟨#[v0, v1, v2, u3, v4, v5, .pointer (some ⟨g6, 0, none⟩), u7, u8, u9, u10, u11, u12, u13, u14, u15, u16, u17, u18, u19, u20, u21, u22, u23, u24, u25, u26, u27, u28, u29, u30, u31, u32, u33, u34, u35, u36, u37, u38, u39], []⟩ w := by
  obtain ⟨i0, hi0, hz0, hz1, hz2⟩ := info_parts info_bill
  have HI := Lib.hid (And.intro hi0 (And.intro hz0 (And.intro hz1 hz2)))
  have H6 := Lib.hid h6
  have HM := Lib.hid hm
  have hgz := blk_lt h6
  have hmz := hm.lt
  have HP := Lib.hid hps
  clear hi0 hz0 hz1 hz2 h6 hm hps
  simp only [kBS5, bodyBS, Try.f20, Option.getD_some]
  go_wp2_with fail
  go_loopw [7, 8] (fun v i wr => ∃ (k g L cl : Nat), k ≤ 99 ∧ i = .int .i64 ((k : Int) + 1) ∧ L = (billsTo T rs k).length ∧ v = .slice (some ⟨g, 0, none⟩) L cl ∧ Below w.heap.size w wr ∧ wr.ownsRow w.heap.size 48 4 (.slice (some ⟨g, 0, none⟩) L cl) L (bills (billsTo T rs k))) (fun _ i _ => 100 - (intOf i).toNat)
  case atStart => exact ⟨0, w.heap.size, 0, 0, by omega, by simp, rfl, rfl, below_al (Below.refl _ _) _, row_empty (Nat.le_refl _) (heap_alloc_new _ _)⟩
  case round =>
    obtain ⟨k, g, L, cl, hk, rfl, hL, rfl, B, hown⟩ := hrel
    have HL := Lib.hid hL
    have HOW := Lib.hid hown
    have HB := Lib.hid B
    have hzb := B.size
    have hlen := billsTo_len T rs k
    rw [← hL] at hlen
    clear hL hown
    by_cases hlt : k < 99
    · obtain ⟨c, hc⟩ : ∃ c : Int, c = (k : Int) + 1 := ⟨_, rfl⟩
      have hc1 : 1 ≤ c := by omega
      have hc2 : c ≤ 99 := by omega
      have HC := Lib.hid hc
      rw [← hc]
      clear hc
      have e6 := blk_cell ((B.block g6 hgz).trans H6.out) 0
      have hlk := im_look (HM.out.keep (B.block gm hmz)) c true
      rw [if_pos rfl, HP.out c] at hlk
      clear B
      by_cases hp : 0 < (billFor T rs c).t
      · rw [if_pos hp] at hlk
        simp only [Option.getD_some, Option.isSome_some, BillD.val, show (billFor T rs c).c = c from rfl] at hlk
        have HN := Lib.hid (show billsTo T rs (k + 1) = billsTo T rs k ++ [billFor T rs c] by rw [HC.out]; exact billsTo_some (by rw [← HC.out]; exact hp))
        obtain ⟨hi0, hz0, hz1, hz2⟩ := HI.out
        have HH := Lib.hid hi0
        clear hi0 hp
        go_wp2_with (at_builtin; refine wpList_app _ rfl (.tmp 35) (.tmp 37) 35 rfl w.heap.size 48 i0 zeroBill 4 32 Try.underlying35 HH.out hz0 hz1 hz2 rfl (by decide) (.slice (some ⟨g, 0, none⟩) L cl) L (bills (billsTo T rs k)) rfl (row_keep HOW.out ?c1) (by simp) ⟨_, 0, none⟩ 1 1 (BillD.cells (billFor T rs c)) rfl rfl ?c2 (by intro u hu; simp [BillD.cells] at hu; rcases hu with rfl | rfl | rfl | rfl <;> rfl) ?c5 ?c6 ?c7 ?_; (case c1 => exact fun b hb => (Below.heap_alloc _ _ b (by simp; omega)).trans (Below.heap_alloc _ _ b hb)); (case c2 => exact World.news_of_block (cs := (BillD.cells (billFor T rs c)).toArray) (heap_new' _ _ (by simp))); (case c5 => unfold maxLen; omega); (case c6 => omega); (case c7 => (simp; omega)); intro g1 c1 w1 hown1 hgr1 B1; have HO1 := Lib.hid hown1; have HB1 := Lib.hid B1; clear hown1 hgr1 B1)
        go_roundw
        case rel =>
          refine ⟨k + 1, g1, L + 1, c1, by have := HC.out; omega, by rw [HC.out]; push_cast; rfl, by rw [HN.out, HL.out]; simp, rfl, ?_, ?_⟩
          · exact (below_al (below_al HB.out _) _).trans HB1.out
          · rw [HN.out, bills_snoc]; exact HO1.out
        case measure => have := HC.out; simp [intOf]; omega
      · rw [if_neg hp] at hlk
        simp only [Option.getD_none, Option.isSome_none] at hlk
        have HN := Lib.hid (show billsTo T rs (k + 1) = billsTo T rs k by exact billsTo_none (by rw [← HC.out]; exact hp))
        clear hp
        go_wp2
        go_roundw
        case rel => exact ⟨k + 1, g, L, cl, by have := HC.out; omega, by rw [HC.out]; push_cast; rfl, by rw [HN.out]; exact HL.out, rfl, below_al HB.out _, by rw [HN.out]; exact row_keep HOW.out (fun b hb => Below.heap_alloc _ _ b hb)⟩
        case measure => have := HC.out; simp [intOf]; omega
    · have e : k = 99 := by omega
      subst e
      go_wp2
      obtain ⟨A', c', e', o⟩ := ownV_of_row HOW.out (by decide)
      injection e' with e1 e2 e3
      subst e1 e3
      exact HQ.out _ _ _ _ _ _ _ _ _ _ _ _ _ _ _ _ _ _ _ _ _ _ _ _ _ _ _ _ _ _ _ _ _ _ _ _ _ o HB.out
section
variable {St : Nat → Prop} {W0 : World} {Post : Value → World → Prop}
set_option maxHeartbeats 4000000 in
set_option maxRecDepth 100000 in
theorem jo_bills {m : Fm} {ms : List Fm} {w : World} {ops : Array Oper} {i : Nat} {rest : List Nat} {k : List Item} {o : Oper} {args : Array Operand} {ats : Array TypeId} {A : Option Addr} {n cap : Nat} {T : Trf} {rs : List RecD} {src : Option Blk}
    (hr : m.ret = false) (hfn : inL olL m.fn = false) (htd : m.todo = .inRegion ops (i :: rest) :: k) (ho : ops[i]? = some o) (hwt : Region.wanted o (yielded ops m.tmps) = true) (hop : o.op = .call ⟨.value (.func 20), args, ats⟩)
    (hv : args.map m.eval = #[.agg #[.int .i64 T.f, .int .i64 T.s, .int .i64 T.p], .slice A n cap]) (hs : srcOk w A src) (hlo : ∀ b, src = some b → Try.prog.globals.size ≤ b.rb) (hslc : Slc w 0 w.heap.size 7 A n cap (recs rs)) (hn : n ≤ 1048576)
    (hJ : ∀ A' n' c' w', Bl w.heap.size w w' → OwnV 48 4 w' w.heap.size w'.heap.size A' n' c' (bills (billsM T rs)) → JE St W0 Post (m.fin ops i rest k (.tuple #[.slice A' n' c', .bool (billOk T rs)])) ms w') : JE St W0 Post m ms w := by
  have L := lvF
  have hback : ∀ (tmps : Array Value) (td : List Item) (A' : Option Addr) (n' c' : Nat) (w' : World), tmps.getD 4 undef = .slice A' n' c' → tmps.getD 5 undef = .bool (billOk T rs) → Bl w.heap.size w w' → OwnV 48 4 w' w.heap.size w'.heap.size A' n' c' (bills (billsM T rs)) → JE St W0 Post ⟨20, tmps, td, true⟩ (m :: ms) w' := by
    intro tmps td A' n' c' w' h4 h5 hb ho
    refine JO.back L (v := .tuple #[.slice A' n' c', .bool (billOk T rs)]) rfl htd (fnx := Try.f20) Try.func20 ?_ hfn (hJ A' n' c' w' hb ho)
    show (resS [.tmp 4, .tmp 5] tmps).run _ _ = _
    simp only [resS, resOne, h4, h5]
    rfl
  have hfo : inL olL 20 = false := by kernel_rfl
  have hbb : (Try.f20).body = some bodyBS := rfl
  have hnn : ((Try.f20).name == "runtime.NumGoroutine") = false := by decide
  have hcn := JO.callN (St := St) (W0 := W0) (Post := Post) (ms := ms) (w := w) (fn := Try.f20) (c := bodyBS) L hr htd ho hwt hop hfo
  refine hcn Try.func20 hnn hbb ?_
  rw [hv]
  have hent : (#[.agg #[.int .i64 T.f, .int .i64 T.s, .int .i64 T.p], .slice A n cap] : Array Value) ++ Array.replicate ((Try.f20).ntmps - (#[.agg #[.int .i64 T.f, .int .i64 T.s, .int .i64 T.p], .slice A n cap] : Array Value).size) undef = #[.agg #[.int .i64 T.f, .int .i64 T.s, .int .i64 T.p], .slice A n cap, undef, undef, undef, undef, undef, undef, undef, undef, undef, undef, undef, undef, undef, undef, undef, undef, undef, undef, undef, undef, undef, undef, undef, undef, undef, undef, undef, undef, undef, undef, undef, undef, undef, undef, undef, undef, undef, undef] := by
    have e : (Try.f20).ntmps = 40 := rfl
    rw [e]
    apply Array.ext'
    simp only [Array.toList_append, Array.toList_replicate, List.size_toArray, List.length_cons, List.length_nil]
    rfl
  rw [hent, bodyBS_eq]
  have hsrc : ∀ b, src = some b → b.rb < w.heap.size := fun b e => by subst e; exact (Array.getElem?_eq_some_iff.1 hs.2.1).1
  refine JO.seq L hfo ?_
  refine JO.pieceQ L (by kernel_rfl) hfo (fun Tp Q HQ => ?_)
  simp only [rBS0, bodyBS, Try.f20, Option.getD_some]
  go_wp2
  refine HQ.out _ _ ?_
  clear HQ
  obtain ⟨g2, hg2⟩ : ∃ g, g = w.heap.size := ⟨_, rfl⟩
  have B1 : Bl w.heap.size w ((Tt.tp w Tp 0).alloc (trfO T)) := ((Bl.refl _ w).tp Tp 0).al (Nat.le_refl _) _
  have h2 : ((Tt.tp w Tp 0).alloc (trfO T)).heap[g2]? = some (trfO T) := by rw [hg2]; exact heap_push (Tt.tp w Tp 0) _
  have e2 : (Tt.tp w Tp 0).heap.size = g2 := hg2.symm
  rw [e2]
  generalize (Tt.tp w Tp 0).alloc (trfO T) = w1 at B1 h2 ⊢
  have HG2 := Lib.hid hg2
  have hg2l : w.heap.size ≤ g2 := by omega
  clear hg2 e2
  refine JO.seq L hfo ?_
  refine JO.seq L hfo ?_
  refine JO.pieceQ L (by kernel_rfl) hfo (fun Tp Q HQ => ?_)
  simp only [rBS1, bodyBS, Try.f20, Option.getD_some]
  have B1t := B1.tp Tp 0
  have h2t : (Tt.tp w1 Tp 0).heap[g2]? = some (trfO T) := h2
  have hs1 := hslc.bl B1t
  have c0 := blk_cell h2t 0
  have c1 := blk_cell h2t 1
  have c2 := blk_cell h2t 2
  clear B1 h2
  generalize Tt.tp w1 Tp 0 = w2 at B1t h2t hs1 c0 c1 c2 ⊢
  have key : ∀ (t : Bool) (w3 : World), Bl w.heap.size w w3 → w3.heap[g2]? = some (trfO T) → t = billOk T rs → True := fun _ _ _ _ _ => True.intro
  obtain ⟨tt, htt⟩ : ∃ t, t = T.ok := ⟨_, rfl⟩
  have HTT := Lib.hid htt
  have htt' : tariffB T.f T.s T.p = tt := htt.symm
  go_wp2_with fail
  refine (impl_TariffValid _ _ _ _).mono ?_
  rintro e w3 ⟨rfl, b3⟩
  rw [htt']
  have B3 := B1t.below' b3 (by have := B1t.size; omega)
  have h23 := (blk_below b3 h2t).1
  clear htt htt' c0 c1 c2 hs1
  cases tt with
  | false =>
    go_wp2
    refine HQ.out _ _ ?_
    clear HQ
    have hob : billOk T rs = false := by unfold billOk; rw [← HTT.out]; rfl
    refine JO.cond L (t := true) hfo rfl ?_
    refine JO.seq L hfo ?_
    refine JO.pieceQ L (by kernel_rfl) hfo (fun Tp Q HQ => ?_)
    simp only [rBS2, bodyBS, Try.f20, Option.getD_some]
    go_wp2
    refine HQ.out _ _ ?_
    refine JO.ret L hfo ?_
    exact hback _ _ _ _ _ _ rfl (by rw [hob]; rfl) (B3.tp Tp 0) (by unfold billsM; rw [hob]; exact OwnV.nil _ _ _)
  | true =>
    obtain ⟨t2, ht2⟩ : ∃ t, t = validR rs := ⟨_, rfl⟩
    have HT2 := Lib.hid ht2
    clear ht2
    have hs3 := hslc.bl B3
    go_wp2_with fail
    refine (impl_recordsValid _ _ _ _ _ _ _ hs3 hn).mono ?_
    rintro e w4 ⟨rfl, b4⟩
    rw [← HT2.out]
    have B4 := B3.below' b4 (by have := B3.size; omega)
    have h24 := (blk_below b4 h23).1
    clear hs3 b4 B3 h23
    cases t2 with
    | false =>
      go_wp2
      refine HQ.out _ _ ?_
      clear HQ
      have hob : billOk T rs = false := by unfold billOk; rw [← HT2.out]; simp
      have B3 := B4
      refine JO.cond L (t := true) hfo rfl ?_
      refine JO.seq L hfo ?_
      refine JO.pieceQ L (by kernel_rfl) hfo (fun Tp Q HQ => ?_)
      simp only [rBS2, bodyBS, Try.f20, Option.getD_some]
      go_wp2
      refine HQ.out _ _ ?_
      refine JO.ret L hfo ?_
      exact hback _ _ _ _ _ _ rfl (by rw [hob]; rfl) (B3.tp Tp 0) (by unfold billsM; rw [hob]; exact OwnV.nil _ _ _)
    | true =>
      go_wp2
      refine HQ.out _ _ ?_
      clear HQ
      have hob : billOk T rs = true := by unfold billOk; rw [← HTT.out, ← HT2.out]; rfl
      refine JO.cond L (t := false) hfo rfl ?_
      refine JO.skip L hfo ?_
      refine JO.seq L hfo ?_
      refine JO.pieceQ L (by kernel_rfl) hfo (fun Tp Q HQ => ?_)
      simp only [rBS3, bodyBS, Try.f20, Option.getD_some]
      have hmm := @run_makeMap Try.prog
      have B4t := B4.tp Tp 0
      have h24t : (Tt.tp w4 Tp 0).heap[g2]? = some (trfO T) := h24
      generalize Tt.tp w4 Tp 0 = w5 at B4t h24t ⊢
      clear B4 h24
      go_wp2
      refine HQ.out _ _ ?_
      clear HQ hmm
      have hz3 := B4t.size
      have hlt2 := blk_lt h24t
      obtain ⟨gm, hgm⟩ : ∃ g, g = w5.heap.size := ⟨_, rfl⟩
      have B3 := (B4t.al (Nat.le_refl _) (.map #[] 0)).al (Nat.le_refl _) (.cells #[.map (some w5.heap.size)] MB)
      have h23 := blk_alloc (blk_alloc h24t (.map #[] 0)) (.cells #[.map (some w5.heap.size)] MB)
      have e1 : (w5.alloc (.map #[] 0)).heap.size = gm + 1 := by rw [size_push, hgm]
      have h63 : ((w5.alloc (.map #[] 0)).alloc (.cells #[.map (some w5.heap.size)] MB)).heap[gm + 1]? = some (.cells #[.map (some gm)] MB) := by rw [← e1, heap_push, hgm]
      have hm3 : IntMap ((w5.alloc (.map #[] 0)).alloc (.cells #[.map (some w5.heap.size)] MB)) gm [] := ⟨#[], 0, by rw [hgm]; exact blk_alloc (heap_push w5 _) _, rfl⟩
      have hlt3 : gm + 1 < ((w5.alloc (.map #[] 0)).alloc (.cells #[.map (some w5.heap.size)] MB)).heap.size := blk_lt h63
      rw [← hgm] at B3 h23 h63 hm3 hlt3 ⊢
      rw [← hgm] at hz3 hlt2
      generalize (w5.alloc (.map #[] 0)).alloc (.cells #[.map (some gm)] MB) = w6 at B3 h23 h63 hm3 hlt3 ⊢
      clear B4t h24t
      refine JO.seq L hfo ?_
      rw [rBS4_eq]
      refine JO.reg L hfo ?_
      rw [opsBS4_range]
      refine JO.opv L (v := .slice A n cap) hfo opsBS4_0 rfl (fun T e => rfl) ?_
      simp only [Go.Act.put, List.setIfInBounds_toArray, List.set_cons_zero, List.set_cons_succ]
      refine JO.opv L (v := .func (.func 46) #[] #[.pointer (some ⟨gm + 1, 0, none⟩), .pointer (some ⟨g2, 0, none⟩)]) hfo opsBS4_1 rfl (fun T e => (exec_makeFunc (f := 46) (first := #[]) (cap := #[.tmp 6, .tmp 2]) rfl _).trans (by simp [Go.Act.eval])) ?_
      simp only [Go.Act.put, List.setIfInBounds_toArray, List.set_cons_zero, List.set_cons_succ]
      have hI := billsI (B := w.heap.size) (wb := ghostM w6 src 76) (g2 := g2) (g6 := gm + 1) (gm := gm) hob (by omega) (by omega) ⟨by omega, by rw [ghostM_size]; have := B3.size; omega⟩
      refine jo_each (ops := opsBS4) (i := 2) (o := oBS4_2) (src := src) (rs := rs) (f := 46) (capt := #[.pointer (some ⟨gm + 1, 0, none⟩), .pointer (some ⟨g2, 0, none⟩)]) rfl rfl opsBS4_2 rfl rfl (by kernel_rfl) (by simp [Fm.eval]) (srcOk_bl hs B3) hlo (hslc.bl B3) hn hI (by kernel_rfl) ?_ (fun wn hin => ?_)
      · have hne : ∀ x, w.heap.size ≤ x → ∀ b, src = some b → b.rb ≠ x := fun x hx b e e2 => by have := hsrc b e; omega
        refine ⟨?_, ?_, ⟨[], ?_, billsIn_nil _⟩, Nat.le_refl _, fun _ _ => rfl⟩
        · rw [ghostM_at (by omega) (hne _ (by omega))]; exact h23
        · rw [ghostM_at (by omega) (hne _ (by omega))]; exact h63
        · exact hm3.keep (ghostM_at (by omega) (hne _ (by omega)))
      · have hne : ∀ x, w.heap.size ≤ x → ∀ b, src = some b → b.rb ≠ x := fun x hx b e e2 => by have := hsrc b e; omega
        have hwz := hin.size
        rw [ghostM_size] at hwz
        have B5 := thaw_bl (srcOk_bl hs B3) B3 (Nat.le_refl _) hin.old (by omega) hsrc
        have h65 : (thaw wn src).heap[gm + 1]? = some (.cells #[.map (some gm)] MB) := (thaw_at (hne _ (by omega))).trans hin.c6
        obtain ⟨ps, hD1, hD2⟩ := hin.m
        have hm5 : IntMap (thaw wn src) gm ps := hD1.keep (thaw_at (hne _ (by omega)))
        rw [List.take_of_length_le (by rw [hslc.recLen]; exact Nat.le_refl _)] at hD2
        simp only [Fm.fin, opsBS4_2, Option.bind_some, List.setIfInBounds_toArray, List.set_cons_zero, List.set_cons_succ]
        refine JO.regEnd L hfo ?_
        refine JO.tailQ L (by kernel_rfl) hfo (fun Tp Q HQ => ?_)
        have B5t := B5.tp Tp 0
        have h65t : (Tt.tp (thaw wn src) Tp 0).heap[gm + 1]? = some (.cells #[.map (some gm)] MB) := h65
        have hm5t : IntMap (Tt.tp (thaw wn src) Tp 0) gm ps := hm5
        generalize Tt.tp (thaw wn src) Tp 0 = w7 at B5t h65t hm5t ⊢
        have HQ1 := HQ.out
        refine billO_wp h65t hm5t hD2 (Lib.hid fun u7 u8 u9 u10 u11 u12 u13 u14 u15 u16 u17 u18 u19 u20 u21 u22 u23 u24 u25 u26 u27 u28 u29 u30 u31 u32 u33 u34 u35 u36 u37 u38 u39 A' n' c' w8 ho b8 => ?_)
        refine HQ1 _ _ (fun todo => ?_)
        exact hback _ _ _ _ _ _ rfl (by rw [hob]; rfl) (B5t.below b8 (by have := B5t.size; omega)) (by unfold billsM; rw [if_pos hob]; exact ho.wide (by have := B5t.size; omega) (Nat.le_refl _))
end
end Go.Proofs.Ytjcpjijihajopaa
