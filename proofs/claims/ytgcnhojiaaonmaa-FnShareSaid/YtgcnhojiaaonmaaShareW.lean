/-
  ShareCharge of the program.
-/
import Derived.Test.YtgcnhojiaaonmaaShare
import Derived.Test.YtgcnhojiaaonmaaMarkSS
namespace Go.Proofs.Ytgcnhojiaaonmaa
open Go.RowKit
set_option linter.unusedVariables false
def partsF (ch S : Int) (ws : List Int) : List Int := ws.map fun w => ch * w / S
def leftF (ch S : Int) (ws : List Int) : Int := ch - (partsF ch S ws).sum
def shareF (ch : Int) (ws : List Int) : List Int := giveAll ch ws.sum ws (leftF ch ws.sum ws).toNat (partsF ch ws.sum ws)
def weightB (x : Int) : Bool := inB x 0 1000
def shareB (ch : Int) (ws : List Int) : Bool := decide (0 ≤ ch ∧ ch ≤ 1000000 ∧ ws.length ≤ 10) && ws.all weightB && decide (ws.sum ≠ 0)
theorem weight_of {ws : List Int} (h : ws.all weightB = true) {k : Nat} {x : Int} (hk : ws[k]? = some x) : 0 ≤ x ∧ x ≤ 1000 := by
  have := (List.all_eq_true.1 h) x (List.mem_of_getElem? hk)
  simpa [weightB, inB] using this
theorem sum_take_bound {ws : List Int} (h : ws.all weightB = true) : ∀ k, 0 ≤ (ws.take k).sum ∧ (ws.take k).sum ≤ 1000 * k ∧ (ws.take k).sum ≤ ws.sum := by
  induction ws with
  | nil => intro k; simp; omega
  | cons x l ih =>
    have hx := weight_of h (k := 0) (x := x) rfl
    have hl : l.all weightB = true := by rw [List.all_cons] at h; exact (Bool.and_eq_true _ _ ▸ h).2
    intro k
    cases k with
    | zero => have := ih hl l.length; simp at this ⊢; omega
    | succ k => have := ih hl k; simp only [List.take_succ_cons, List.sum_cons]; omega
theorem sum_take_succ {ws : List Int} {k : Nat} {x : Int} (h : ws[k]? = some x) : (ws.take (k + 1)).sum = (ws.take k).sum + x := by
  rw [take_snoc' h, List.sum_append]; simp
theorem sum_bound {ws : List Int} (h : ws.all weightB = true) (hl : ws.length ≤ 10) : 0 ≤ ws.sum ∧ ws.sum ≤ 10000 := by
  have := sum_take_bound h ws.length
  rw [List.take_length] at this
  omega
theorem prod_bound {ch x : Int} (h0 : 0 ≤ ch) (h1 : ch ≤ 1000000) (x0 : 0 ≤ x) (x1 : x ≤ 1000) : 0 ≤ ch * x ∧ ch * x ≤ 1000000000 := by
  refine ⟨Int.mul_nonneg h0 x0, ?_⟩
  have e1 : ch * x ≤ 1000000 * x := Int.mul_le_mul_of_nonneg_right h1 x0
  omega
theorem part_bound {ch x S : Int} (h0 : 0 ≤ ch) (h1 : ch ≤ 1000000) (x0 : 0 ≤ x) (x1 : x ≤ 1000) (hS : 1 ≤ S) : 0 ≤ ch * x / S ∧ ch * x / S ≤ 1000000000 := by
  obtain ⟨p0, p1⟩ := prod_bound h0 h1 x0 x1
  exact ⟨Int.ediv_nonneg p0 (by omega), Int.le_trans (Int.ediv_le_self S p0) p1⟩
theorem sum_div_le (S : Int) (hS : 1 ≤ S) (l : List Int) : (l.map (· / S)).sum ≤ l.sum / S := by
  induction l with
  | nil => simp
  | cons a l ih =>
    simp only [List.map_cons, List.sum_cons]
    have h1 : a / S * S ≤ a := Int.ediv_mul_le a (by omega)
    have h2 : l.sum / S * S ≤ l.sum := Int.ediv_mul_le l.sum (by omega)
    have h3 : (a / S + l.sum / S) * S ≤ a + l.sum := by rw [Int.add_mul]; omega
    have h4 : a / S + l.sum / S ≤ (a + l.sum) / S := (Int.le_ediv_iff_mul_le (by omega)).2 h3
    omega
theorem sum_mul (ch : Int) (l : List Int) : (l.map fun w => ch * w).sum = ch * l.sum := by
  induction l with
  | nil => simp
  | cons a l ih => simp only [List.map_cons, List.sum_cons, ih, Int.mul_add]
theorem leftF_nonneg {ch : Int} {ws : List Int} (hS : 1 ≤ ws.sum) : 0 ≤ leftF ch ws.sum ws := by
  unfold leftF partsF
  have h := sum_div_le ws.sum hS (ws.map fun w => ch * w)
  rw [sum_mul, Int.mul_ediv_cancel _ (by omega), List.map_map] at h
  have e : (ws.map ((fun x => x / ws.sum) ∘ fun w => ch * w)) = ws.map fun w => ch * w / ws.sum := rfl
  rw [e] at h
  omega
theorem giveOne_len (ch S : Int) (ws ps : List Int) : (giveOne ch S ws ps).length = ps.length := by simp [giveOne]
/-- Parts stay within bounds: each from 0, at most b. -/
def PB (b : Int) (ps : List Int) : Prop := ∀ x ∈ ps, 0 ≤ x ∧ x ≤ b
theorem PB.set {b : Int} {ps : List Int} (h : PB b ps) (k : Nat) {x : Int} (hx : 0 ≤ x ∧ x ≤ b) : PB b (ps.set k x) := fun y hy => by
  rcases List.mem_or_eq_of_mem_set hy with h1 | h1
  · exact h y h1
  · subst h1; exact hx
theorem PB.get {b : Int} {ps : List Int} (h : PB b ps) {k : Nat} {x : Int} (hk : ps[k]? = some x) : 0 ≤ x ∧ x ≤ b := h x (List.mem_of_getElem? hk)
theorem PB.mono {b b' : Int} {ps : List Int} (h : PB b ps) (hb : b ≤ b') : PB b' ps := fun x hx => by have := h x hx; omega
theorem rests_get {ch S : Int} {ws ps : List Int} {k : Nat} {w p : Int} (hw : ws[k]? = some w) (hp : ps[k]? = some p) : (rests ch S ws ps).getD k 0 = ch * w - p * S := by
  unfold rests; rw [List.getD_eq_getElem?_getD, List.getElem?_zipWith, hw, hp]; rfl
theorem rest_bound {p S : Int} (p0 : 0 ≤ p) (p1 : p ≤ 1002000000) (s0 : 1 ≤ S) (s1 : S ≤ 10000) : 0 ≤ p * S ∧ p * S ≤ 10020000000000 := by
  refine ⟨Int.mul_nonneg p0 (by omega), ?_⟩
  have e1 : p * S ≤ 1002000000 * S := Int.mul_le_mul_of_nonneg_right p1 (by omega)
  omega
/-- What ShareCharge answers. -/
def ShareAns (w : World) (ch : Int) (ws : List Int) (e : Ending) (w' : World) : Prop :=
  ∃ A n c, e = .returned (.tuple #[.slice A n c, .bool (shareB ch ws)]) ∧ Own w' w.heap.size w'.heap.size A n c (if shareB ch ws = true then shareF ch ws else []) ∧ Below w.heap.size w w'
def ShareYes (w : World) (ch : Int) (ws : List Int) (e : Ending) (w' : World) : Prop := ∃ A n c, e = .returned (.tuple #[.slice A n c, .bool true]) ∧ Own w' w.heap.size w'.heap.size A n c (shareF ch ws) ∧ Below w.heap.size w w'
theorem argmaxUpto_lt (l : List Int) {k n : Nat} (hk : k ≤ n) (hn : 1 ≤ n) : argmaxUpto l k < n := by have := argmaxUpto_le l k; omega
theorem rests_len {ch S : Int} {ws ps : List Int} (h : ws.length = ps.length) : (rests ch S ws ps).length = ps.length := by simp [rests, h]
set_option maxHeartbeats 4000000 in
theorem impl_ShareCharge_yes (lo hi n c : Nat) (A : Option Addr) (ch : Int) (ws : List Int) (w : World) (h : Slc w lo hi 1 A n c (ints ws)) (hch0 : 0 ≤ ch) (hch1 : ch ≤ 1000000) (hn : n ≤ 10) (hall : ws.all weightB = true) (hS : ws.sum ≠ 0) :
    Calls Try.prog 38 #[.int .i64 ch, .slice A n c] w (ShareYes w ch ws) := by
  obtain ⟨cs0, hs0, hmk⟩ := make_ints n (by omega)
  have hlen := h.length
  obtain ⟨S, hSe⟩ : ∃ S, S = ws.sum := ⟨_, rfl⟩
  have hSb := sum_bound hall (by omega)
  have hS1 : 1 ≤ S := by omega
  have hS2 : S ≤ 10000 := by omega
  have HSE := Lib.hid hSe
  have HALL := Lib.hid hall
  have HL := Lib.hid hlen
  have HS0 := Lib.hid hs0
  clear hSe hall hlen hs0 hSb hS
  go_enter Try.func38, Try.ntmps38
  go_wp2
  go_loop [6, 28] (fun q i => ∃ k : Nat, k ≤ n ∧ i = .int .i64 k ∧ q = .int .i64 (ws.take k).sum) (fun _ i => n - (intOf i).toNat)
  case atStart => exact ⟨0, Nat.zero_le _, rfl, by simp⟩
  case round =>
    obtain ⟨k, hk, rfl, rfl⟩ := hrel
    obtain ⟨t0, t1, t2⟩ := sum_take_bound HALL.out k
    obtain ⟨q, hq⟩ : ∃ q, q = (ws.take k).sum := ⟨_, rfl⟩
    rw [← hq] at t0 t1 t2 ⊢
    have HQ := Lib.hid hq
    clear hq
    by_cases hlt : k < n
    · obtain ⟨b, off, x, rfl, _, _, h3, hxk, hv⟩ := h.cellAt hlt
      obtain ⟨x0, x1⟩ := weight_of HALL.out hxk
      have HX := Lib.hid (sum_take_succ hxk)
      clear hxk h t2
      go_wp2
      go_round
      case rel => exact ⟨k + 1, by omega, by go_num, by rw [HX.out, ← HQ.out]⟩
      case measure => simp [intOf]; omega
    · have e : k = n := by omega
      have hqS : q = S := by rw [HQ.out, HSE.out, List.take_of_length_le (by rw [HL.out]; omega)]
      subst hqS
      have hz0 : (q == 0) = false := by simp; omega
      clear HQ t0 t1 t2 e
      go_wp2
      go_loopw [10, 50] (fun l i wr => ∃ (k : Nat) (L : Int) (cs : Array Value), k ≤ n ∧ i = .int .i64 k ∧ l = .int .i64 L ∧ L = ch - ((partsF ch q ws).take k).sum ∧ -10000000000 * k ≤ L ∧ L ≤ 1000000 ∧ Below w.heap.size w wr ∧ wr.heap[w.heap.size]? = some (.cells cs 3) ∧ cs.size = n ∧ (∀ j, j < k → cs[j]? = (ints (partsF ch q ws))[j]?)) (fun _ i _ => n - (intOf i).toNat)
      case atStart => exact ⟨0, ch, cs0, Nat.zero_le _, rfl, rfl, by simp, by omega, hch1, below_al (Below.refl _ _) _, heap_alloc_new _ _, HS0.out, fun j hj => absurd hj (by omega)⟩
      case round =>
        obtain ⟨k2, L, cs, hk2, rfl, rfl, hL, L0, L1, B, hb, hsz, hcs⟩ := hrel
        have HLL := Lib.hid hL
        have HSZ := Lib.hid hsz
        have HC := Lib.hid hcs
        have HB := Lib.hid hb
        have hzz := blk_lt hb
        have hc := blk_cell hb
        have hf := blk_frozen' hb
        clear hL hsz hcs hb
        by_cases hlt2 : k2 < n
        · obtain ⟨b, off, x, rfl, _, _, h3, hxk, hv⟩ := (h.below B).cellAt hlt2
          obtain ⟨x0, x1⟩ := weight_of HALL.out hxk
          obtain ⟨p0, p1⟩ := prod_bound hch0 hch1 x0 x1
          obtain ⟨d0, d1⟩ := part_bound hch0 hch1 x0 x1 hS1
          have HP := Lib.hid (show (partsF ch q ws)[k2]? = some (ch * x / q) by unfold partsF; rw [List.getElem?_map, hxk]; rfl)
          have hck : ∃ u, cs[k2]? = some u := ⟨cs[k2]'(by rw [HSZ.out]; exact hlt2), Array.getElem?_eq_getElem _⟩
          obtain ⟨u, hu⟩ := hck
          clear hxk h
          go_wp2
          go_roundw
          case rel => exact ⟨k2 + 1, L - ch * x / q, cs.setIfInBounds k2 (.int .i64 (ch * x / q)), by omega, by go_num, rfl, by rw [sum_take_succ HP.out, HLL.out]; omega, by omega, by omega, B.setCell (Nat.le_refl _) _, blk_setCell HB.out _, by simp [HSZ.out], fun j hj => by
            by_cases e : j = k2
            · subst e
              rw [Array.getElem?_setIfInBounds_self_of_lt (by rw [HSZ.out]; exact hlt2)]
              unfold ints; rw [List.getElem?_map, HP.out]; rfl
            · rw [Array.getElem?_setIfInBounds_ne (by omega)]; exact HC.out j (by omega)⟩
          case measure => simp [intOf]; omega
        · have e2 : k2 = n := by omega
          have hpl : (partsF ch q ws).length = n := by unfold partsF; rw [List.length_map]; exact HL.out
          have hLF : L = leftF ch q ws := by rw [HLL.out, leftF, List.take_of_length_le (by rw [hpl]; omega)]
          have hL0 : 0 ≤ L := by rw [hLF, HSE.out]; exact leftF_nonneg (by rw [← HSE.out]; exact hS1)
          obtain ⟨M, hM⟩ : ∃ M : Nat, L = M := ⟨L.toNat, by omega⟩
          subst hM
          have hSF : giveAll ch q ws M (partsF ch q ws) = shareF ch ws := by unfold shareF; rw [← HSE.out, ← hLF]; rfl
          have hPB : PB 1000000000 (partsF ch q ws) := fun x hx => by
            unfold partsF at hx
            obtain ⟨y, hy, rfl⟩ := List.mem_map.1 hx
            have := (List.all_eq_true.1 HALL.out) y hy
            simp [weightB, inB] at this
            exact part_bound hch0 hch1 this.1 this.2 hS1
          have HSF := Lib.hid hSF
          have HPB := Lib.hid hPB
          have HPL := Lib.hid hpl
          have hn1 : 1 ≤ n := by
            rcases Nat.eq_zero_or_pos n with h0 | h0
            · exfalso
              have := HSE.out
              rw [List.eq_nil_of_length_eq_zero (HL.out.trans h0)] at this
              simp at this; omega
            · exact h0
          subst e2
          clear hLF hpl hSF hPB L0 hL0 HLL hlt2 hc hf
          have HB2 := Lib.hid (And.intro B (And.intro HB.out (And.intro HSZ.out HC.out)))
          clear HB HSZ HC B hzz hk2
          go_wp2
          go_loopw [10] (fun l wr => ∃ (m : Nat) (ps : List Int) (cs : Array Value), l = .int .i64 m ∧ m ≤ M ∧ ps.length = k2 ∧ giveAll ch q ws m ps = shareF ch ws ∧ PB (1000000000 + (M - m)) ps ∧ Below w.heap.size w wr ∧ wr.heap[w.heap.size]? = some (.cells cs 3) ∧ cs.size = k2 ∧ (∀ j, j < k2 → cs[j]? = (ints ps)[j]?)) (fun l _ => (intOf l).toNat)
          case atStart => exact ⟨M, partsF ch q ws, cs, rfl, Nat.le_refl _, HPL.out, HSF.out, HPB.out.mono (by omega), HB2.out.1, HB2.out.2.1, HB2.out.2.2.1, HB2.out.2.2.2⟩
          case round =>
            obtain ⟨m, ps, cs1, rfl, hm, hps, hga, hpb, B1, hb1, hsz1, hcs1⟩ := hrel
            have HGA := Lib.hid hga
            have HPS := Lib.hid hps
            have HPB1 := Lib.hid hpb
            have HSZ1 := Lib.hid hsz1
            have HCS1 := Lib.hid hcs1
            have HB1 := Lib.hid hb1
            have hzz1 := blk_lt hb1
            have hc1 := blk_cell hb1
            have hf1 := blk_frozen' hb1
            clear hga hps hpb hsz1 hcs1 hb1
            by_cases hm0 : 0 < m
            · obtain ⟨wo, rfl⟩ : ∃ wo : World, wo = wr := ⟨_, rfl⟩
              go_wp2
              go_loopw [13, 76] (fun g i wr => ∃ k : Nat, k ≤ k2 ∧ i = .int .i64 k ∧ g = .int .i64 (argmaxUpto (rests ch q ws ps) k : Nat) ∧ ∃ d, wr = wo.drewN d) (fun _ i _ => k2 - (intOf i).toNat)
              case atStart => exact ⟨0, Nat.zero_le _, rfl, rfl, 0, rfl⟩
              case round =>
                obtain ⟨k3, hk3, rfl, rfl, hd⟩ := hrel
                have hag := argmaxUpto_lt (rests ch q ws ps) hk3 hn1
                have HD := Lib.hid hd
                have bd : Below wo.heap.size wo wr := by obtain ⟨d, rfl⟩ := hd; exact below_drewN (Below.refl _ _) _
                obtain ⟨hb2, hz2⟩ := blk_below bd HB1.out
                have hc2 := blk_cell hb2
                have hf2 := blk_frozen' hb2
                have HB3 := Lib.hid hb2
                have B2 := below_step B1 bd
                clear hd hb2 bd hc1 hf1
                obtain ⟨G, hG⟩ : ∃ G, G = argmaxUpto (rests ch q ws ps) k3 := ⟨_, rfl⟩
                rw [← hG] at hag ⊢
                have HG := Lib.hid hG
                clear hG
                have hgp : ps[G]? = some (ps[G]'(by rw [HPS.out]; exact hag)) := List.getElem?_eq_getElem _
                obtain ⟨pg, hpg⟩ : ∃ pg, ps[G]? = some pg := ⟨_, hgp⟩
                clear hgp
                obtain ⟨g0, g1⟩ := HPB1.out.get hpg
                have hcg : cs1[G]? = some (.int .i64 pg) := by rw [HCS1.out G hag]; unfold ints; rw [List.getElem?_map, hpg]; rfl
                by_cases hlt3 : k3 < k2
                · obtain ⟨b, off, x, rfl, _, _, h3, hxk, hv⟩ := (h.below B2).cellAt hlt3
                  obtain ⟨b', off', xg, hA', _, _, h3', hxg, hvg⟩ := (h.below B2).cellAt hag
                  injection hA' with hA'; injection hA' with e1 e2 e3
                  subst e1 e2
                  obtain ⟨x0, x1⟩ := weight_of HALL.out hxk
                  obtain ⟨y0, y1⟩ := weight_of HALL.out hxg
                  have hkp : ps[k3]? = some (ps[k3]'(by rw [HPS.out]; exact hlt3)) := List.getElem?_eq_getElem _
                  obtain ⟨pk, hpk⟩ : ∃ pk, ps[k3]? = some pk := ⟨_, hkp⟩
                  clear hkp
                  obtain ⟨k0', k1'⟩ := HPB1.out.get hpk
                  have hck : cs1[k3]? = some (.int .i64 pk) := by rw [HCS1.out k3 hlt3]; unfold ints; rw [List.getElem?_map, hpk]; rfl
                  obtain ⟨a0, a1⟩ := prod_bound hch0 hch1 x0 x1
                  obtain ⟨b0, b1⟩ := prod_bound hch0 hch1 y0 y1
                  obtain ⟨c0, c1⟩ := rest_bound (p := pk) (S := q) k0' (by omega) hS1 hS2
                  obtain ⟨d0, d1⟩ := rest_bound (p := pg) (S := q) g0 (by omega) hS1 hS2
                  have i0 : (0 : Int) ≤ (k3 : Int) := by omega
                  have i1 : (k3 : Int) < (k2 : Int) := by omega
                  have i2 : (0 : Int) ≤ (G : Int) := by omega
                  have i3 : (G : Int) < (k2 : Int) := by omega
                  have HR1 := Lib.hid (rests_get (ch := ch) (S := q) hxk hpk)
                  have HR2 := Lib.hid (rests_get (ch := ch) (S := q) hxg hpg)
                  have HNX := Lib.hid (show argmaxUpto (rests ch q ws ps) (k3 + 1) = if (rests ch q ws ps).getD k3 0 > (rests ch q ws ps).getD (argmaxUpto (rests ch q ws ps) k3) 0 then k3 else argmaxUpto (rests ch q ws ps) k3 from rfl)
                  clear h hxk hxg hpk hpg
                  by_cases hgt : ch * xg - pg * q < ch * x - pk * q
                  · go_wp2
                    go_quiet (fail)
                    go_wp2
                    go_roundw
                    case rel => exact ⟨k3 + 1, by omega, by go_num, by rw [HNX.out, ← HG.out, HR1.out, HR2.out, if_pos hgt], by obtain ⟨d, hd⟩ := HD.out; exact ⟨d + nq, by rw [hd, World.drewN_drewN]⟩⟩
                    case measure => simp [intOf]; omega
                  · go_wp2
                    go_quiet (fail)
                    go_wp2
                    go_roundw
                    case rel => exact ⟨k3 + 1, by omega, by go_num, by rw [HNX.out, ← HG.out, HR1.out, HR2.out, if_neg (by omega)], by obtain ⟨d, hd⟩ := HD.out; exact ⟨d + nq, by rw [hd, World.drewN_drewN]⟩⟩
                    case measure => simp [intOf]; omega
                · have e3 : k3 = k2 := by omega
                  have HGN := Lib.hid (show giveOne ch q ws ps = ps.set G (pg + 1) by
                    have hl : (rests ch q ws ps).length = k2 := by rw [rests_len (by rw [HL.out, HPS.out]), HPS.out]
                    unfold giveOne argmax
                    rw [hl, ← e3, ← HG.out, List.getD_eq_getElem?_getD, hpg]; rfl)
                  have HGA2 := Lib.hid (show giveAll ch q ws (m - 1) (giveOne ch q ws ps) = shareF ch ws by
                    have := HGA.out
                    obtain ⟨m', rfl⟩ : ∃ m', m = m' + 1 := ⟨m - 1, by omega⟩
                    exact this)
                  have HM1 := Lib.hid (show ((m - 1 : Nat) : Int) = (m : Int) - 1 by omega)
                  have HPG := Lib.hid hpg
                  clear h e3 hpg
                  go_wp2
                  go_roundw
                  case rel => exact ⟨m - 1, ps.set G (pg + 1), cs1.setIfInBounds G (.int .i64 (pg + 1)), by rw [HM1.out], by omega, by rw [List.length_set]; exact HPS.out, by rw [← HGN.out]; exact HGA2.out, (HPB1.out.mono (by omega)).set G ⟨by omega, by omega⟩, B2.setCell (Nat.le_refl _) _, blk_setCell HB3.out _, by simp [HSZ1.out], fun j hj => by
                    by_cases e : j = G
                    · subst e
                      rw [Array.getElem?_setIfInBounds_self_of_lt (by rw [HSZ1.out]; exact hj)]
                      unfold ints; rw [List.getElem?_map, List.getElem?_set_self (by rw [HPS.out]; exact hj)]; rfl
                    · rw [Array.getElem?_setIfInBounds_ne (by omega), HCS1.out j hj]
                      unfold ints; rw [List.getElem?_map, List.getElem?_map, List.getElem?_set_ne (by omega)]⟩
                  case measure => simp [intOf]; omega
            · have em : m = 0 := by omega
              subst em
              have HFIN := Lib.hid (show ps = shareF ch ws from HGA.out)
              clear h
              go_wp2
              go_ret2
              have hfl : (shareF ch ws).length = k2 := by rw [← HFIN.out]; exact HPS.out
              exact ⟨_, _, _, rfl, ⟨slc_made HB1.out hzz1 HSZ1.out (by unfold maxLen; omega) hfl (by rw [← HFIN.out]; exact HCS1.out), fun _ => ⟨_, cs1, rfl, HB1.out, by rw [HSZ1.out]; exact Nat.le_refl _⟩⟩, B1⟩
end Go.Proofs.Ytgcnhojiaaonmaa
