/-
  The reference's TotalOf.
  The program's TotalOf, judged whole.
-/
import Derived.Test.YtjcpjijihajopaaBillS
import Derived.Test.YtjcpjijihajopaaBilB
import Derived.Test.YtjcpjijihajopaaBilC
import Derived.Deep.MidRow
set_option linter.unusedSectionVars false
set_option linter.unusedSimpArgs false
set_option linter.unusedVariables false
namespace Go.Proofs.Ytjcpjijihajopaa
open Go.RowKit
set_option linter.unusedVariables false
def sumG (bs : List BillD) : Int := (bs.map (·.g)).sum
theorem sumG_succ {bs : List BillD} {k : Nat} {b : BillD} (h : bs[k]? = some b) : sumG (bs.take (k + 1)) = sumG (bs.take k) + b.g := by
  unfold sumG
  rw [List.take_add_one, h]
  simp
theorem sumG_bound {bs : List BillD} (h : ∀ b ∈ bs, 0 ≤ b.g ∧ b.g ≤ 219600000) (k : Nat) : 0 ≤ sumG (bs.take k) ∧ sumG (bs.take k) ≤ 219600000 * k := by
  induction k with
  | zero => simp [sumG]
  | succ k ih =>
    have e : (219600000 : Int) * ((k + 1 : Nat) : Int) = 219600000 * k + 219600000 := by push_cast; omega
    rw [e]
    by_cases hk : k < bs.length
    · rw [sumG_succ (List.getElem?_eq_getElem hk)]
      have := h bs[k] (List.getElem_mem hk)
      omega
    · rw [List.take_of_length_le (by omega)]
      rw [List.take_of_length_le (by omega)] at ih
      omega
theorem bills_g {T : Trf} {rs : List RecD} (ho : billOk T rs = true) : ∀ b ∈ billsM T rs, 0 ≤ b.g ∧ b.g ≤ 219600000 := by
  intro b hb
  unfold billsM billsTo at hb
  rw [if_pos ho] at hb
  obtain ⟨i, _, hi⟩ := List.mem_filterMap.1 hb
  unfold billAt at hi
  split at hi
  · injection hi with hi
    subst hi
    have := billFor_bounds ho rs.length ((i : Int) + 1)
    rw [List.take_length] at this
    exact ⟨this.2.2.2.2.1, this.2.2.2.2.2⟩
  · cases hi
theorem billsM_len (T : Trf) (rs : List RecD) : (billsM T rs).length ≤ 99 := by
  unfold billsM
  split
  · exact billsTo_len T rs 99
  · simp
theorem totalM_eq {T : Trf} {rs : List RecD} (ho : billOk T rs = true) : totalM T rs = sumG (billsM T rs) := by unfold totalM billsM; rw [if_pos ho, if_pos ho]; rfl
theorem totalM_no {T : Trf} {rs : List RecD} (ho : billOk T rs = false) : totalM T rs = -1 := by unfold totalM; rw [ho]; rfl
set_option maxRecDepth 20000 in
set_option maxHeartbeats 2000000 in
theorem spec_TotalOf (T : Trf) (lo hi n cp : Nat) (A : Option Addr) (rs : List RecD) (w : World) (h : Slc w lo hi 7 A n cp (recs rs)) (hn : n ≤ 1048576) :
    Calls Try.prog 16 #[.agg #[.int .i64 T.f, .int .i64 T.s, .int .i64 T.p], .slice A n cp] w fun e w' => e = .returned (.int .i64 (totalM T rs)) ∧ Below w.heap.size w w' := by
  obtain ⟨t, ht⟩ : ∃ t, t = billOk T rs := ⟨_, rfl⟩
  have HT := Lib.hid ht
  clear ht
  obtain ⟨B, hB⟩ : ∃ B, B = billsM T rs := ⟨_, rfl⟩
  have HB := Lib.hid hB
  clear hB
  go_enter Try.func16, Try.ntmps16
  go_wp2_with fail
  refine (spec_BillsOf T _ _ _ _ _ rs _ (h.alloc _) hn).mono ?_
  rintro e w1 ⟨A', n', c', rfl, ho, b1⟩
  rw [← HT.out]
  rw [← HB.out] at ho
  have hs := ho.slc
  have B1 := (below_al (Below.refl w.heap.size w) (.cells #[.int .i64 T.f, .int .i64 T.s, .int .i64 T.p] 32)).trans (b1.mono (by simp))
  have hl := Lib.hid hs.billsLen
  clear h ho b1
  cases t
  · clear hs
    go_wp2
    go_ret
    exact ⟨ret_int (totalM_no HT.out.symm).symm, B1⟩
  · have HS := Lib.hid (sumG_bound (by rw [HB.out]; exact bills_g HT.out.symm : ∀ b ∈ B, 0 ≤ b.g ∧ b.g ≤ 219600000))
    have HG := Lib.hid (by rw [HB.out]; exact bills_g HT.out.symm : ∀ b ∈ B, 0 ≤ b.g ∧ b.g ≤ 219600000)
    have HLE := Lib.hid (by rw [HB.out]; exact billsM_len T rs : B.length ≤ 99)
    go_wp2_with fail
    go_loopw [7, 8] (fun s i wr => ∃ k : Nat, k ≤ n' ∧ s = .int .i64 (sumG (B.take k)) ∧ i = .int .i64 k ∧ Below w1.heap.size w1 wr) (fun _ i _ => n' - (intOf i).toNat)
    case atStart => exact ⟨0, Nat.zero_le _, rfl, rfl, Below.refl _ _⟩
    case round =>
      obtain ⟨k, hk, rfl, rfl, Bk⟩ := hrel
      by_cases hlt : k < n'
      · obtain ⟨b, off, d, hA, _, _, h3, hxk, hv0, hv1, hv2, hv3⟩ := (hs.below Bk).billsAt hlt
        subst hA
        have HX := Lib.hid (sumG_succ hxk)
        have hg := HG.out d (List.mem_of_getElem? hxk)
        have hsk := HS.out k
        have hll := hl.out
        have hle := HLE.out
        have i0 : (0 : Int) ≤ (k : Int) := by omega
        have i1 : (k : Int) < (n' : Int) := by omega
        obtain ⟨s, hs'⟩ : ∃ s, s = sumG (B.take k) := ⟨_, rfl⟩
        rw [← hs'] at HX hsk ⊢
        have W1 := (IntWalk.i64_left _).trans (IntWalk.wrap64_in (s + d.g) (by omega))
        have hn99 : n' ≤ 99 := by omega
        clear hxk hs hv0 hv1 hv2 h3 hg hsk hll hle hs'
        go_wp2
        go_roundw
        case rel => exact ⟨k + 1, by omega, by rw [HX.out], by go_num, Bk⟩
        case measure => simp [intOf]; omega
      · have e : k = n' := by omega
        subst e
        have HE := Lib.hid (show B.take k = B by rw [List.take_of_length_le (by rw [hl.out]; exact Nat.le_refl _)])
        clear hs
        go_wp2
        go_ret
        exact ⟨ret_int (by rw [HE.out, totalM_eq HT.out.symm, ← HB.out]), B1.trans (Bk.mono B1.size)⟩
end Go.Proofs.Ytjcpjijihajopaa
namespace Go.Proofs.Ytjcpjijihajopaa
open Go.RowKit Go.Mt Go.Conc Go.Tt Go.Maps
set_option linter.unusedVariables false
theorem exec_load {p : Program} {o : Oper} {t : TypeId} {x : Operand} {ρ : Operand → Value} {b : Nat} {cs : Array Value} {T : TypeId} {fz : Nat × Nat} {d : TypeDesc} (hop : o.op = .load t x) {w : World} (hb : w.heap[b]? = some (.cells cs T fz)) (hx : ρ x = .pointer (some ⟨b, 0, none⟩))
    (hu : p.underlying t = some d) (hd : d.isRow = true) (hi : (p.info? t).map (·.size) = some cs.size) : (execOp ρ o).run p w = .ok (.value (.agg cs)) w := by
  obtain ⟨dst, op', type, pos, after, guard⟩ := o
  simp only at hop
  subst hop
  have := run_loadAt_mid (P := p) w b 0 t cs.toList d (fun j v hj => by rw [Nat.zero_add, blk_cell hb]; simpa using hj) hu hd (by simpa using hi)
  simp only [execOp, hx, Sem.run_bind, this, Result.andThen_ok]
  rfl
noncomputable def bodyTO : Code := (Try.f18.body).getD .skip
noncomputable def rTO0 : Code := match bodyTO with | .seq (a) _ => a | _ => .skip
noncomputable def rTO1 : Code := match bodyTO with | .seq _ (.seq (a) _) => a | _ => .skip
noncomputable def kTO2 : Code := match bodyTO with | .seq _ (.seq _ (a)) => a | _ => .skip
theorem bodyTO_eq : bodyTO = .seq (rTO0) (.seq (rTO1) (kTO2)) := rfl
noncomputable def opsTO1 : Array Oper := match rTO1 with | .region _ ops _ => ops | _ => #[]
theorem rTO1_eq : rTO1 = .region 1 opsTO1 false := rfl
theorem opsTO1_range : List.range opsTO1.size = [0, 1, 2, 3, 4, 5, 6, 7] := rfl
abbrev oTO1_0 : Oper := { dst := some 11, op := Go.Op.load 32 (Go.Operand.tmp 2), type := 32, pos := "l8_bills.go:169", after := #[], guard := none }
theorem opsTO1_0 : opsTO1[0]? = some oTO1_0 := rfl
abbrev oTO1_1 : Oper := { dst := some 12, op := Go.Op.move (Go.Operand.tmp 1), type := 25, pos := "l8_bills.go:169", after := #[], guard := none }
theorem opsTO1_1 : opsTO1[1]? = some oTO1_1 := rfl
abbrev oTO1_2 : Oper := { dst := some 13, op := Go.Op.call { callee := Go.Callee.value (Go.Operand.func 20), args := #[Go.Operand.tmp 11, Go.Operand.tmp 12], argTypes := #[32, 25] }, type := 36, pos := "l8_bills.go:169", after := #[{ on := 0, ground := Go.Ground.data }, { on := 1, ground := Go.Ground.data }], guard := none }
theorem opsTO1_2 : opsTO1[2]? = some oTO1_2 := rfl
abbrev oTO1_3 : Oper := { dst := some 10, op := Go.Op.move (Go.Operand.tmp 13), type := 36, pos := "l8_bills.go:169", after := #[{ on := 2, ground := Go.Ground.data }], guard := none }
theorem opsTO1_3 : opsTO1[3]? = some oTO1_3 := rfl
abbrev oTO1_4 : Oper := { dst := some 14, op := Go.Op.extract (Go.Operand.tmp 10) 0, type := 35, pos := "l8_bills.go:169", after := #[{ on := 3, ground := Go.Ground.data }], guard := none }
theorem opsTO1_4 : opsTO1[4]? = some oTO1_4 := rfl
abbrev oTO1_5 : Oper := { dst := some 15, op := Go.Op.extract (Go.Operand.tmp 10) 1, type := 4, pos := "l8_bills.go:169", after := #[{ on := 3, ground := Go.Ground.data }, { on := 6, ground := Go.Ground.gcOnly Go.Departure.lateStores }], guard := none }
theorem opsTO1_5 : opsTO1[5]? = some oTO1_5 := rfl
abbrev oTO1_6 : Oper := { dst := some 5, op := Go.Op.assign (Go.Operand.tmp 14), type := 35, pos := "l8_bills.go:169", after := #[{ on := 4, ground := Go.Ground.data }, { on := 2, ground := Go.Ground.chain }, { on := 0, ground := Go.Ground.phase }, { on := 1, ground := Go.Ground.phase }, { on := 2, ground := Go.Ground.phase }, { on := 3, ground := Go.Ground.phase }, { on := 4, ground := Go.Ground.phase }, { on := 5, ground := Go.Ground.textOnly Go.Departure.lateStores }], guard := none }
theorem opsTO1_6 : opsTO1[6]? = some oTO1_6 := rfl
abbrev oTO1_7 : Oper := { dst := some 6, op := Go.Op.assign (Go.Operand.tmp 15), type := 4, pos := "l8_bills.go:169", after := #[{ on := 5, ground := Go.Ground.data }, { on := 6, ground := Go.Ground.chain }, { on := 0, ground := Go.Ground.phase }, { on := 1, ground := Go.Ground.phase }, { on := 2, ground := Go.Ground.phase }, { on := 3, ground := Go.Ground.phase }, { on := 4, ground := Go.Ground.phase }, { on := 5, ground := Go.Ground.phase }, { on := 6, ground := Go.Ground.phase }], guard := none }
theorem opsTO1_7 : opsTO1[7]? = some oTO1_7 := rfl

section
variable {St : Nat → Prop} {W0 : World} {Post : Value → World → Prop}
set_option maxHeartbeats 4000000 in
set_option maxRecDepth 100000 in
theorem jo_total {m : Fm} {ms : List Fm} {w : World} {ops : Array Oper} {i : Nat} {rest : List Nat} {k : List Item} {o : Oper} {args : Array Operand} {ats : Array TypeId} {A : Option Addr} {n cap : Nat} {T : Trf} {rs : List RecD} {src : Option Blk}
    (hr : m.ret = false) (hfn : inL olL m.fn = false) (htd : m.todo = .inRegion ops (i :: rest) :: k) (ho : ops[i]? = some o) (hwt : Region.wanted o (yielded ops m.tmps) = true) (hop : o.op = .call ⟨.value (.func 18), args, ats⟩)
    (hv : args.map m.eval = #[.agg #[.int .i64 T.f, .int .i64 T.s, .int .i64 T.p], .slice A n cap]) (hs : srcOk w A src) (hlo : ∀ b, src = some b → Try.prog.globals.size ≤ b.rb) (hslc : Slc w 0 w.heap.size 7 A n cap (recs rs)) (hn : n ≤ 1048576)
    (hJ : ∀ w', Bl w.heap.size w w' → JE St W0 Post (m.fin ops i rest k (.int .i64 (totalM T rs))) ms w') : JE St W0 Post m ms w := by
  have L := lvF
  have hback : ∀ (tmps : Array Value) (td : List Item) (w' : World), tmps.getD 4 undef = .int .i64 (totalM T rs) → Bl w.heap.size w w' → JE St W0 Post ⟨18, tmps, td, true⟩ (m :: ms) w' := by
    intro tmps td w' h4 hb
    refine JO.back L (v := .int .i64 (totalM T rs)) rfl htd (fnx := Try.f18) Try.func18 ?_ hfn (hJ w' hb)
    show (resOne tmps (.tmp 4)).run _ _ = _
    simp only [resOne, Pure.pure, Sem.run, h4]
  have hfo : inL olL 18 = false := by kernel_rfl
  have hbb : (Try.f18).body = some bodyTO := rfl
  have hnn : ((Try.f18).name == "runtime.NumGoroutine") = false := by decide
  have hcn := JO.callN (St := St) (W0 := W0) (Post := Post) (ms := ms) (w := w) (fn := Try.f18) (c := bodyTO) L hr htd ho hwt hop hfo
  refine hcn Try.func18 hnn hbb ?_
  rw [hv]
  have hent : (#[.agg #[.int .i64 T.f, .int .i64 T.s, .int .i64 T.p], .slice A n cap] : Array Value) ++ Array.replicate ((Try.f18).ntmps - (#[.agg #[.int .i64 T.f, .int .i64 T.s, .int .i64 T.p], .slice A n cap] : Array Value).size) undef = #[.agg #[.int .i64 T.f, .int .i64 T.s, .int .i64 T.p], .slice A n cap, undef, undef, undef, undef, undef, undef, undef, undef, undef, undef, undef, undef, undef, undef, undef, undef, undef, undef, undef, undef, undef, undef, undef, undef, undef, undef, undef, undef] := by
    have e : (Try.f18).ntmps = 30 := rfl
    rw [e]
    apply Array.ext'
    simp only [Array.toList_append, Array.toList_replicate, List.size_toArray, List.length_cons, List.length_nil]
    rfl
  rw [hent, bodyTO_eq]
  refine JO.seq L hfo ?_
  refine JO.pieceQ L (by kernel_rfl) hfo (fun Tp Q HQ => ?_)
  simp only [rTO0, bodyTO, Try.f18, Option.getD_some]
  go_wp2
  refine HQ.out _ _ ?_
  clear HQ
  obtain ⟨g2, hg2⟩ : ∃ g, g = w.heap.size := ⟨_, rfl⟩
  have B1 : Bl w.heap.size w ((Tt.tp w Tp 0).alloc (trfO T)) := ((Bl.refl _ w).tp Tp 0).al (Nat.le_refl _) _
  have h2 : ((Tt.tp w Tp 0).alloc (trfO T)).heap[g2]? = some (trfO T) := by rw [hg2]; exact heap_push (Tt.tp w Tp 0) _
  have e2 : (Tt.tp w Tp 0).heap.size = g2 := hg2.symm
  rw [e2]
  generalize (Tt.tp w Tp 0).alloc (trfO T) = w1 at B1 h2 ⊢
  refine JO.seq L hfo ?_
  rw [rTO1_eq]
  refine JO.reg L hfo ?_
  rw [opsTO1_range]
  refine JO.opv L (v := .agg #[.int .i64 T.f, .int .i64 T.s, .int .i64 T.p]) hfo opsTO1_0 rfl (fun T' e => exec_load (w := Tt.tp w1 T' e) (t := 32) (x := .tmp 2) (b := g2) rfl h2 rfl Try.underlying32 rfl (by kernel_rfl)) ?_
  simp only [Go.Act.put, List.setIfInBounds_toArray, List.set_cons_zero, List.set_cons_succ]
  refine JO.opv L (v := .slice A n cap) hfo opsTO1_1 rfl (fun T e => rfl) ?_
  simp only [Go.Act.put, List.setIfInBounds_toArray, List.set_cons_zero, List.set_cons_succ]
  refine jo_bills (ops := opsTO1) (i := 2) (o := oTO1_2) (src := src) (rs := rs) (T := T) rfl hfo rfl opsTO1_2 rfl rfl (by simp [Fm.eval]) (srcOk_bl hs B1) hlo (hslc.bl B1) hn (fun A' n' c' w2 B2 hob => ?_)
  simp only [Fm.fin, opsTO1_2, Option.bind_some, List.setIfInBounds_toArray, List.set_cons_zero, List.set_cons_succ]
  refine JO.opv L (v := .tuple #[.slice A' n' c', .bool (billOk T rs)]) hfo opsTO1_3 rfl (fun T e => rfl) ?_
  simp only [Go.Act.put, List.setIfInBounds_toArray, List.set_cons_zero, List.set_cons_succ]
  refine JO.opv L (v := .slice A' n' c') hfo opsTO1_4 rfl (fun T e => rfl) ?_
  simp only [Go.Act.put, List.setIfInBounds_toArray, List.set_cons_zero, List.set_cons_succ]
  refine JO.opv L (v := .bool (billOk T rs)) hfo opsTO1_5 rfl (fun T e => rfl) ?_
  simp only [Go.Act.put, List.setIfInBounds_toArray, List.set_cons_zero, List.set_cons_succ]
  refine JO.opv L (v := .slice A' n' c') hfo opsTO1_6 rfl (fun T e => rfl) ?_
  simp only [Go.Act.put, List.setIfInBounds_toArray, List.set_cons_zero, List.set_cons_succ]
  refine JO.opv L (v := .bool (billOk T rs)) hfo opsTO1_7 rfl (fun T e => rfl) ?_
  simp only [Go.Act.put, List.setIfInBounds_toArray, List.set_cons_zero, List.set_cons_succ]
  refine JO.regEnd L hfo ?_
  have B2' : Bl w.heap.size w w2 := B1.trans ⟨B2.size, fun x hx => B2.block x (by have := B1.size; omega)⟩
  refine JO.tailQ L (by kernel_rfl) hfo (fun Tp Q HQ => ?_)
  simp only [kTO2, bodyTO, Try.f18, Option.getD_some]
  have B2t := B2'.tp Tp 0
  have hs2 : Slc (Tt.tp w2 Tp 0) w1.heap.size w2.heap.size 4 A' n' c' (bills (billsM T rs)) := hob.slc.tp _ _
  generalize Tt.tp w2 Tp 0 = w3 at B2t hs2 ⊢
  clear hob B2 B1 B2' h2 hg2 e2
  obtain ⟨t, ht⟩ : ∃ t, t = billOk T rs := ⟨_, rfl⟩
  have HT := Lib.hid ht
  rw [← ht]
  clear ht
  obtain ⟨B, hB⟩ : ∃ B, B = billsM T rs := ⟨_, rfl⟩
  rw [← hB] at hs2
  have HB := Lib.hid hB
  clear hB
  have hl := Lib.hid hs2.billsLen
  have HW := Lib.hid B2t
  have hwz := B2t.size
  clear B2t
  cases t with
  | false =>
    clear hs2
    go_wp2
    refine HQ.out _ _ (fun todo => ?_)
    exact hback _ _ _ (by rw [totalM_no HT.out.symm]; rfl) HW.out
  | true =>
    have HS := Lib.hid (sumG_bound (by rw [HB.out]; exact bills_g HT.out.symm : ∀ b ∈ B, 0 ≤ b.g ∧ b.g ≤ 219600000))
    have HG := Lib.hid (by rw [HB.out]; exact bills_g HT.out.symm : ∀ b ∈ B, 0 ≤ b.g ∧ b.g ≤ 219600000)
    have HLE := Lib.hid (by rw [HB.out]; exact billsM_len T rs : B.length ≤ 99)
    go_wp2_with fail
    go_loopw [7, 20] (fun s i wr => ∃ k : Nat, k ≤ n' ∧ s = .int .i64 (sumG (B.take k)) ∧ i = .int .i64 k ∧ Below w3.heap.size w3 wr) (fun _ i _ => n' - (intOf i).toNat)
    case atStart => exact ⟨0, Nat.zero_le _, rfl, rfl, Below.refl _ _⟩
    case round =>
      obtain ⟨k, hk, rfl, rfl, Bk⟩ := hrel
      by_cases hlt : k < n'
      · obtain ⟨b, off, d, hA, _, _, h3, hxk, hv0, hv1, hv2, hv3⟩ := (hs2.below Bk).billsAt hlt
        subst hA
        have HX := Lib.hid (sumG_succ hxk)
        have hg := HG.out d (List.mem_of_getElem? hxk)
        have hsk := HS.out k
        have hll := hl.out
        have hle := HLE.out
        have i0 : (0 : Int) ≤ (k : Int) := by omega
        have i1 : (k : Int) < (n' : Int) := by omega
        obtain ⟨s, hs'⟩ : ∃ s, s = sumG (B.take k) := ⟨_, rfl⟩
        rw [← hs'] at HX hsk ⊢
        have W1 := (IntWalk.i64_left _).trans (IntWalk.wrap64_in (s + d.g) (by omega))
        have hn99 : n' ≤ 99 := by omega
        have HBk := Lib.hid Bk
        clear hxk hs2 h3 hg hsk hll hle hs' Bk
        go_wp2
        go_roundw
        case rel => exact ⟨k + 1, by omega, by rw [HX.out], by go_num, below_al HBk.out _⟩
        case measure => simp [intOf]; omega
      · have e : k = n' := by omega
        subst e
        have HE := Lib.hid (show B.take k = B by rw [List.take_of_length_le (by rw [hl.out]; exact Nat.le_refl _)])
        have HBk := Lib.hid Bk
        clear hs2 Bk
        go_wp2
        refine HQ.out _ _ (fun todo => ?_)
        have htm : totalM T rs = sumG (B.take k) := by rw [totalM_eq HT.out.symm, ← HB.out, HE.out]
        exact hback _ _ _ (by rw [htm]; rfl) (HW.out.below' HBk.out (by have := HW.out.size; omega))
end
end Go.Proofs.Ytjcpjijihajopaa
