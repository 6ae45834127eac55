/-
  ShareCharge of the reference.
-/
import Derived.Test.YtgcnhojiaaonmaaShareN
namespace Go.Proofs.Ytgcnhojiaaonmaa
open Go.RowKit
set_option linter.unusedVariables false
theorem rests_sum (ch S : Int) : ∀ (ws ps : List Int), ws.length = ps.length → (rests ch S ws ps).sum = ch * ws.sum - ps.sum * S := by
  intro ws
  induction ws with
  | nil => intro ps h; cases ps with
    | nil => simp [rests]
    | cons => simp at h
  | cons w ws ih => intro ps h; cases ps with
    | nil => simp at h
    | cons p ps =>
      have := ih ps (by simpa using h)
      unfold rests at this ⊢
      simp only [List.zipWith_cons_cons, List.sum_cons, this, Int.mul_add, Int.add_mul]
      omega
theorem sum_nonpos {l : List Int} (h : ∀ j, j < l.length → l.getD j 0 ≤ 0) : l.sum ≤ 0 := by
  induction l with
  | nil => simp
  | cons a l ih =>
    have h0 := h 0 (by simp)
    have h1 := ih fun j hj => by have := h (j + 1) (by simpa using hj); simpa using this
    simp at h0
    simp only [List.sum_cons]; omega
theorem sum_set {l : List Int} {k : Nat} {x : Int} (h : l[k]? = some x) (y : Int) : (l.set k y).sum = l.sum - x + y := by
  induction l generalizing k with
  | nil => simp at h
  | cons a l ih => cases k with
    | zero => simp at h; subst h; simp only [List.set_cons_zero, List.sum_cons]; omega
    | succ k => simp at h; simp only [List.set_cons_succ, List.sum_cons, ih h]; omega
theorem drew_more {w wo : World} (h : ∃ d, w = wo.drewN d) (n : Nat) : ∃ d, w.drewN n = wo.drewN d := by
  obtain ⟨d, rfl⟩ := h
  exact ⟨d + n, by rw [World.drewN_drewN]⟩
theorem slc_of_blk {w : World} {base g n c : Nat} {cs : Array Value} {T : TypeId} {xs : List Int} (hb : w.heap[g]? = some (.cells cs T)) (hg : base ≤ g) (hz : g < w.heap.size) (hn : n ≤ c) (hn2 : c ≤ maxLen) (hx : xs.length = n)
    (hc : ∀ j, j < n → cs[j]? = (ints xs)[j]?) : Slc w base w.heap.size 1 (some ⟨g, 0, none⟩) n c (ints xs) :=
  ⟨by simp [ints, hx], hn, hn2, fun h0 => ⟨_, 0, rfl, hg, hz, hz, fun j v hv => by
    have hj : j < n := by
      rcases Nat.lt_or_ge j n with h | h
      · exact h
      · rw [List.getElem?_eq_none (by simp [ints, hx]; exact h)] at hv; cases hv
    rw [Nat.zero_add, blk_cell hb, hc j hj, hv]⟩⟩
set_option maxRecDepth 100000 in
set_option maxHeartbeats 8000000 in
theorem spec_ShareCharge_yes (lo hi n c : Nat) (A : Option Addr) (ch : Int) (ws : List Int) (w : World) (h : Slc w lo hi 1 A n c (ints ws)) (hch0 : 0 ≤ ch) (hch1 : ch ≤ 1000000) (hn : n ≤ 10) (hall : ws.all weightB = true) (hS : ws.sum ≠ 0) :
    Calls Try.prog 36 #[.int .i64 ch, .slice A n c] w (ShareYes w ch ws) := by
  have hlen := h.length
  obtain ⟨S, hSe⟩ : ∃ S, S = ws.sum := ⟨_, rfl⟩
  have hSb := sum_bound hall (by omega)
  have hS1 : 1 ≤ S := by omega
  have hS2 : S ≤ 10000 := by omega
  have HSE := Lib.hid hSe
  have HALL := Lib.hid hall
  have HL := Lib.hid hlen
  have hn1 : 1 ≤ n := by
    rcases Nat.eq_zero_or_pos n with h0 | h0
    · exfalso
      rw [List.eq_nil_of_length_eq_zero (hlen.trans h0)] at hS
      exact hS rfl
    · exact h0
  obtain ⟨i0, hi, hz0, hz1, hz2⟩ := info_parts info_int
  have HI := Lib.hid (And.intro hi (And.intro hz0 (And.intro hz1 hz2)))
  have hIn := Lib.hid (show inB ch 0 1000000 = true by simp [inB]; omega)
  clear hSe hall hlen hSb hS hi hz0 hz1 hz2
  go_enter Try.func36, Try.ntmps36
  go_wp2
  go_loopw [7, 8] (fun q i wr => ∃ k : Nat, k ≤ n ∧ i = .int .i64 k ∧ q = .int .i64 (ws.take k).sum ∧ wr = w.alloc (.cells #[] 3)) (fun _ i _ => n - (intOf i).toNat)
  case atStart => exact ⟨0, Nat.zero_le _, rfl, by simp, rfl⟩
  case round =>
    obtain ⟨k, hk, rfl, rfl, rfl⟩ := hrel
    obtain ⟨t0, t1, t2⟩ := sum_take_bound HALL.out k
    obtain ⟨q, hq⟩ : ∃ q, q = (ws.take k).sum := ⟨_, rfl⟩
    rw [← hq] at t0 t1 t2 ⊢
    have HQ := Lib.hid hq
    clear hq
    by_cases hlt : k < n
    · obtain ⟨b, off, x, rfl, _, _, h3, hxk, hv⟩ := (h.alloc (.cells #[] 3)).cellAt hlt
      obtain ⟨x0, x1⟩ := weight_of HALL.out hxk
      have hinx := Lib.hid (show inB x 0 1000 = true by simp [inB]; omega)
      have HX := Lib.hid (sum_take_succ hxk)
      clear hxk h t2
      go_wp2_with fail
      refine (l1In_any _ _ _ _).mono ?_
      rintro e w1 ⟨rfl, rfl⟩
      rw [hinx.out]
      go_wp2
      go_roundw
      case rel => exact ⟨k + 1, by omega, by go_num, by rw [HX.out, ← HQ.out], trivial⟩
      case measure => simp [intOf]; omega
    · have e : k = n := by omega
      have hqS : q = S := by rw [HQ.out, HSE.out, List.take_of_length_le (by rw [HL.out]; omega)]
      subst hqS
      have hz0 : (q == 0) = false := by simp; omega
      have h10 : ¬ 10 < n := by omega
      clear HQ t0 t1 t2 e
      go_wp2_with fail
      refine (l1In_any _ _ _ _).mono ?_
      rintro e w1 ⟨rfl, rfl⟩
      rw [hIn.out]
      have HB0 := Lib.hid (show Below w.heap.size w (w.alloc (.cells #[] 3)) from below_al (Below.refl _ _) _)
      have hpl : (partsF ch q ws).length = n := by unfold partsF; rw [List.length_map]; exact HL.out
      have HPL := Lib.hid hpl
      clear hpl
      go_wp2
      go_loopw [6, 9, 10] (fun v l i wr => ∃ (k : Nat) (L : Int), k ≤ n ∧ i = .int .i64 k ∧ l = .int .i64 L ∧ L = ch - ((partsF ch q ws).take k).sum ∧ -10000000000 * k ≤ L ∧ L ≤ 1000000 ∧ Below w.heap.size w wr ∧ wr.ownsRow w.heap.size 3 1 v k (ints ((partsF ch q ws).take k))) (fun _ _ i _ => n - (intOf i).toNat)
      case atStart => exact ⟨0, ch, Nat.zero_le _, rfl, rfl, by simp, by omega, hch1, HB0.out, owns_empty (Nat.le_refl _) (heap_alloc_new _ _)⟩
      case round =>
        obtain ⟨k2, L, hk2, rfl, rfl, hL, L0, L1, B, hown⟩ := hrel
        have HLL := Lib.hid hL
        have HOW := Lib.hid hown
        clear hL hown
        by_cases hlt2 : k2 < n
        · obtain ⟨b, off, x, rfl, _, _, h3, hxk, hv0⟩ := h.cellAt hlt2
          have hv := (B.cell (p := ⟨b, off + k2, none⟩) h3).trans hv0
          have HV0 := Lib.hid hv0
          clear hv0
          obtain ⟨x0, x1⟩ := weight_of HALL.out hxk
          obtain ⟨p0, p1⟩ := prod_bound hch0 hch1 x0 x1
          obtain ⟨d0, d1⟩ := part_bound hch0 hch1 x0 x1 hS1
          have HP := Lib.hid (show (partsF ch q ws)[k2]? = some (ch * x / q) by unfold partsF; rw [List.getElem?_map, hxk]; rfl)
          obtain ⟨hi, hz0', hz1, hz2⟩ := HI.out
          have HH := Lib.hid hi
          have s0 := B.size
          clear hi hxk h
          go_wp2_with (at_builtin; refine wpList_append_own_at _ rfl _ _ 54 rfl w.heap.size 3 i0 (.int .i64 0) 1 8 Try.underlying54 HH.out hz0' hz1 hz2 rfl (by decide) _ _ _ rfl (owns_below HOW.out (fun b hb => Below.heap_alloc _ _ b hb)) ⟨wr.heap.size, 0, none⟩ 1 1 [.int .i64 (ch * x / q)] rfl rfl (cell_one_new _ _ _) (by simp [Value.oneCell']) (by unfold maxLen; omega) (by omega) (by simp; omega) ?_; intro v' w2 hown2 hgr _ hblk; have HO2 := Lib.hid hown2; have HG := Lib.hid hgr; have hv2 : w2.cell? ⟨b, off + k2, none⟩ = some (.int .i64 x) := (((below_al B _).trans (below_row HOW.out HG.out (by simp; omega))).cell (p := ⟨b, off + k2, none⟩) h3).trans HV0.out; clear hown2 hgr hblk)
          go_roundw
          case rel => exact ⟨k2 + 1, L - ch * x / q, by omega, by go_num, rfl, by rw [sum_take_succ HP.out, HLL.out]; omega, by omega, by omega, (below_al B _).trans (below_row HOW.out HG.out (by simp; omega)), owns_cast HO2.out (by rw [take_snoc' HP.out]; simp [ints]) rfl⟩
          case measure => simp [intOf]; omega
        · have e2 : k2 = n := by omega
          have hLF : L = leftF ch q ws := by rw [HLL.out, leftF, List.take_of_length_le (by rw [HPL.out]; omega)]
          have hL0 : 0 ≤ L := by rw [hLF, HSE.out]; exact leftF_nonneg (by rw [← HSE.out]; exact hS1)
          obtain ⟨M, hM⟩ : ∃ M : Nat, L = M := ⟨L.toNat, by omega⟩
          subst hM
          have hSF : giveAll ch q ws M (partsF ch q ws) = shareF ch ws := by unfold shareF; rw [← HSE.out, ← hLF]; rfl
          have hPB : PB 1000000000 (partsF ch q ws) := fun x hx => by
            unfold partsF at hx
            obtain ⟨y, hy, rfl⟩ := List.mem_map.1 hx
            have := (List.all_eq_true.1 HALL.out) y hy
            simp [weightB, inB] at this
            exact part_bound hch0 hch1 this.1 this.2 hS1
          have hTK : (partsF ch q ws).take k2 = partsF ch q ws := List.take_of_length_le (by rw [HPL.out]; omega)
          have hO := HOW.out
          rw [hTK] at hO
          obtain ⟨A2, c2, rfl, hown⟩ := own_of_row hO
          obtain ⟨g, cs, rfl, hb, hcsz⟩ := hown.blk (by omega)
          obtain ⟨g', off', eg, hgl, _, hgz, hcell⟩ := hown.slc.at_ (by omega)
          injection eg with eg; injection eg with eg1 eg2 eg3; subst eg1 eg2
          have hcap1 := hown.slc.le
          have hcap2 := hown.slc.cap
          have hcs : ∀ j, j < k2 → cs[j]? = (ints (partsF ch q ws))[j]? := fun j hj => by
            have hv : (ints (partsF ch q ws))[j]? = some (.int .i64 ((partsF ch q ws)[j]'(by rw [HPL.out]; omega))) := by simp [ints, HPL.out, show j < n by omega]
            have h1 := hcell j _ hv
            rw [Nat.zero_add, blk_cell hb] at h1
            rw [h1, hv]
          have HSUM := Lib.hid (show (partsF ch q ws).sum = ch - (M : Int) by have := hLF; unfold leftF at this; omega)
          have HSF := Lib.hid hSF
          have HPB := Lib.hid hPB
          have HB2 := Lib.hid (And.intro B (And.intro hb hcs))
          subst e2
          clear hLF hSF hPB L0 hL0 HLL hlt2 hTK hO hown hb hcell hcs B HOW hk2 eg3
          go_wp2
          go_loopw [9] (fun l wr => ∃ (m : Nat) (ps : List Int) (cs : Array Value), l = .int .i64 m ∧ m ≤ M ∧ ps.length = k2 ∧ giveAll ch q ws m ps = shareF ch ws ∧ PB (1000000000 + (M - m)) ps ∧ ps.sum = ch - m ∧ Below w.heap.size w wr ∧ wr.heap[g]? = some (.cells cs 3) ∧ k2 ≤ cs.size ∧ (∀ j, j < k2 → cs[j]? = (ints ps)[j]?)) (fun l _ => (intOf l).toNat)
          case atStart => exact ⟨M, partsF ch q ws, cs, rfl, Nat.le_refl _, HPL.out, HSF.out, HPB.out.mono (by omega), HSUM.out, HB2.out.1, HB2.out.2.1, hcsz, HB2.out.2.2⟩
          case round =>
            obtain ⟨m, ps, cs1, rfl, hm, hps, hga, hpb, hsum, B1, hb1, hsz1, hcs1⟩ := hrel
            have HGA := Lib.hid hga
            have HPS := Lib.hid hps
            have HPB1 := Lib.hid hpb
            have HSM1 := Lib.hid hsum
            have HCS1 := Lib.hid hcs1
            have HB1 := Lib.hid hb1
            have hzz1 := blk_lt hb1
            have hc1 := blk_cell hb1
            have hf1 := blk_frozen' hb1
            clear hga hps hpb hsum hcs1 hb1
            by_cases hm0 : 0 < m
            · obtain ⟨wo, rfl⟩ : ∃ wo : World, wo = wr := ⟨_, rfl⟩
              go_wp2
              go_loopw [11, 12] (fun g' i wr => ∃ k : Nat, k ≤ k2 ∧ i = .int .i64 k ∧ g' = .int .i64 (bestUpto (rests ch q ws ps) k) ∧ ∃ d, wr = wo.drewN d) (fun _ i _ => k2 - (intOf i).toNat)
              case atStart => exact ⟨0, Nat.zero_le _, rfl, rfl, 0, rfl⟩
              case round =>
                obtain ⟨k3, hk3, rfl, rfl, hd⟩ := hrel
                have HD := Lib.hid hd
                have bd : Below wo.heap.size wo wr := by obtain ⟨d, rfl⟩ := hd; exact below_drewN (Below.refl _ _) _
                obtain ⟨hb2, hz2⟩ := blk_below bd HB1.out
                have hc2 := blk_cell hb2
                have hf2 := blk_frozen' hb2
                have HB3 := Lib.hid hb2
                have B2 := below_step B1 bd
                clear hd hb2 bd hc1 hf1
                obtain ⟨Gi, hG⟩ : ∃ Gi, Gi = bestUpto (rests ch q ws ps) k3 := ⟨_, rfl⟩
                have hbu := bestUpto_eq (rests ch q ws ps) k3
                rw [← hG] at hbu ⊢
                have HG := Lib.hid hG
                clear hG
                have HNX := Lib.hid (show bestUpto (rests ch q ws ps) (k3 + 1) = if (rests ch q ws ps).getD k3 0 > 0 ∧ (bestUpto (rests ch q ws ps) k3 < 0 ∨ (rests ch q ws ps).getD k3 0 > (rests ch q ws ps).getD (bestUpto (rests ch q ws ps) k3).toNat 0) then (k3 : Int) else bestUpto (rests ch q ws ps) k3 from rfl)
                by_cases hlt3 : k3 < k2
                · obtain ⟨b, off, x, rfl, _, _, h3, hxk, hv⟩ := (h.below B2).cellAt hlt3
                  obtain ⟨x0, x1⟩ := weight_of HALL.out hxk
                  have hkp : ps[k3]? = some (ps[k3]'(by rw [HPS.out]; exact hlt3)) := List.getElem?_eq_getElem _
                  obtain ⟨pk, hpk⟩ : ∃ pk, ps[k3]? = some pk := ⟨_, hkp⟩
                  clear hkp
                  obtain ⟨k0', k1'⟩ := HPB1.out.get hpk
                  have hck : cs1[k3]? = some (.int .i64 pk) := by rw [HCS1.out k3 hlt3]; unfold ints; rw [List.getElem?_map, hpk]; rfl
                  obtain ⟨a0, a1⟩ := prod_bound hch0 hch1 x0 x1
                  obtain ⟨c0, c1⟩ := rest_bound (p := pk) (S := q) k0' (by omega) hS1 hS2
                  have i0 : (0 : Int) ≤ (k3 : Int) := by omega
                  have i1 : (k3 : Int) < (k2 : Int) := by omega
                  have HR1 := Lib.hid (rests_get (ch := ch) (S := q) hxk hpk)
                  have HXP := Lib.hid (And.intro hxk hpk)
                  clear hxk hpk
                  by_cases hpos : 0 < ch * x - pk * q
                  · rcases hbu with ⟨hm1, _⟩ | ⟨hge, hgp, hgl⟩
                    · subst hm1
                      have hpos2 : pk * q < ch * x := by omega
                      have hd1 : decide (0 < ch * x - pk * q) = true := by simpa using hpos2
                      have hd2 : decide (pk * q < ch * x) = true := by simpa using hpos2
                      clear h
                      go_wp2
                      go_quiet (fail)
                      go_wp2
                      go_quiet (fail)
                      go_wp2
                      go_roundw
                      case rel => exact ⟨k3 + 1, by omega, by go_num, by rw [HNX.out, HR1.out, if_pos ⟨hpos, .inl (by rw [← HG.out]; omega)⟩], drew_more HD.out _⟩
                      case measure => simp [intOf]; omega
                    · obtain ⟨G, hGG⟩ : ∃ G, G = argmaxUpto (rests ch q ws ps) k3 := ⟨_, rfl⟩
                      rw [← hGG] at hge hgp hgl
                      subst hge
                      have hgk : G < k2 := by omega
                      obtain ⟨b', off', xg, hA', _, _, h3', hxg, hvg⟩ := (h.below B2).cellAt hgk
                      injection hA' with hA'; injection hA' with e1 e2 e3
                      subst e1 e2
                      obtain ⟨y0, y1⟩ := weight_of HALL.out hxg
                      have hgp2 : ps[G]? = some (ps[G]'(by rw [HPS.out]; exact hgk)) := List.getElem?_eq_getElem _
                      obtain ⟨pg, hpg⟩ : ∃ pg, ps[G]? = some pg := ⟨_, hgp2⟩
                      clear hgp2
                      obtain ⟨g0, g1⟩ := HPB1.out.get hpg
                      have hcg : cs1[G]? = some (.int .i64 pg) := by rw [HCS1.out G hgk]; unfold ints; rw [List.getElem?_map, hpg]; rfl
                      obtain ⟨b0, b1⟩ := prod_bound hch0 hch1 y0 y1
                      obtain ⟨d0, d1⟩ := rest_bound (p := pg) (S := q) g0 (by omega) hS1 hS2
                      have i2 : (0 : Int) ≤ (G : Int) := by omega
                      have i3 : (G : Int) < (k2 : Int) := by omega
                      have HR2 := Lib.hid (rests_get (ch := ch) (S := q) hxg hpg)
                      have hpos2 : pk * q < ch * x := by omega
                      have hd1 : decide (0 < ch * x - pk * q) = true := by simpa using hpos2
                      have hd2 : decide (pk * q < ch * x) = true := by simpa using hpos2
                      have hd3 : decide ((G : Int) < 0) = false := by simp
                      have HGE := Lib.hid hgp
                      clear h hxg hpg hGG hgp
                      by_cases hgt : ch * xg - pg * q < ch * x - pk * q
                      · have hd4 : decide (ch * xg - pg * q < ch * x - pk * q) = true := by simpa using hgt
                        go_wp2
                        go_quiet (fail)
                        go_wp2
                        go_quiet (fail)
                        go_wp2
                        go_roundw
                        case rel => exact ⟨k3 + 1, by omega, by go_num, by rw [HNX.out, HR1.out, ← HG.out, Int.toNat_natCast, HR2.out, if_pos ⟨hpos, .inr hgt⟩], drew_more HD.out _⟩
                        case measure => simp [intOf]; omega
                      · have hd4 : decide (ch * xg - pg * q < ch * x - pk * q) = false := by simpa using hgt
                        go_wp2
                        go_quiet (fail)
                        go_wp2
                        go_quiet (fail)
                        go_wp2
                        go_roundw
                        case rel => exact ⟨k3 + 1, by omega, by go_num, by rw [HNX.out, HR1.out, ← HG.out, Int.toNat_natCast, HR2.out, if_neg (fun hh => hh.2.elim (fun h1 => by omega) (fun h1 => absurd h1 (by omega)))], drew_more HD.out _⟩
                        case measure => simp [intOf]; omega
                  · have hneg : ch * x ≤ pk * q := by omega
                    have hd1 : decide (0 < ch * x - pk * q) = false := by simpa using hneg
                    have hd2 : decide (pk * q < ch * x) = false := by simpa using hneg
                    clear h hbu
                    go_wp2
                    go_quiet (fail)
                    go_wp2
                    go_quiet (fail)
                    go_wp2
                    go_roundw
                    case rel => exact ⟨k3 + 1, by omega, by go_num, by rw [HNX.out, HR1.out, ← HG.out, if_neg (fun hh => absurd hh.1 (by omega))], drew_more HD.out _⟩
                    case measure => simp [intOf]; omega
                · have e3 : k3 = k2 := by omega
                  have hrl : (rests ch q ws ps).length = k2 := by rw [rests_len (by rw [HL.out, HPS.out]), HPS.out]
                  rcases hbu with ⟨_, hall0⟩ | ⟨hge, hgp, hgl⟩
                  · exfalso
                    have h1 := sum_nonpos (l := rests ch q ws ps) fun j hj => hall0 j (by omega)
                    rw [rests_sum ch q ws ps (by rw [HL.out, HPS.out]), HSM1.out, ← HSE.out, Int.sub_mul] at h1
                    have h2 : 0 < (m : Int) * q := Int.mul_pos (by omega) (by omega)
                    omega
                  · obtain ⟨G, hGG⟩ : ∃ G, G = argmaxUpto (rests ch q ws ps) k3 := ⟨_, rfl⟩
                    rw [← hGG] at hge hgp hgl
                    subst hge
                    have hgk : G < k2 := by omega
                    have hgp2 : ps[G]? = some (ps[G]'(by rw [HPS.out]; exact hgk)) := List.getElem?_eq_getElem _
                    obtain ⟨pg, hpg⟩ : ∃ pg, ps[G]? = some pg := ⟨_, hgp2⟩
                    clear hgp2
                    obtain ⟨g0, g1⟩ := HPB1.out.get hpg
                    have hcg : cs1[G]? = some (.int .i64 pg) := by rw [HCS1.out G hgk]; unfold ints; rw [List.getElem?_map, hpg]; rfl
                    have i2 : (0 : Int) ≤ (G : Int) := by omega
                    have i3 : (G : Int) < (k2 : Int) := by omega
                    have HGN := Lib.hid (show giveOne ch q ws ps = ps.set G (pg + 1) by
                      unfold giveOne argmax
                      rw [hrl, ← e3, ← hGG, List.getD_eq_getElem?_getD, hpg]; rfl)
                    have HGA2 := Lib.hid (show giveAll ch q ws (m - 1) (giveOne ch q ws ps) = shareF ch ws by
                      have := HGA.out
                      obtain ⟨m', rfl⟩ : ∃ m', m = m' + 1 := ⟨m - 1, by omega⟩
                      exact this)
                    have HM1 := Lib.hid (show ((m - 1 : Nat) : Int) = (m : Int) - 1 by omega)
                    have HPG := Lib.hid hpg
                    have HSZ3 := Lib.hid (show G < cs1.size by omega)
                    have HSZ1 := Lib.hid hsz1
                    clear h e3 hpg hrl hGG hgp HNX hsz1
                    go_wp2
                    go_roundw
                    case rel => exact ⟨m - 1, ps.set G (pg + 1), cs1.setIfInBounds G (.int .i64 (pg + 1)), by rw [HM1.out], by omega, by rw [List.length_set]; exact HPS.out, by rw [← HGN.out]; exact HGA2.out, (HPB1.out.mono (by omega)).set G ⟨by omega, by omega⟩, by rw [sum_set HPG.out, HSM1.out, HM1.out]; omega, B2.setCell (by omega) _, blk_setCell HB3.out _, by simp; exact HSZ1.out, fun j hj => by
                      by_cases e : j = G
                      · subst e
                        rw [Array.getElem?_setIfInBounds_self_of_lt HSZ3.out]
                        unfold ints; rw [List.getElem?_map, List.getElem?_set_self (by rw [HPS.out]; exact hj)]; rfl
                      · rw [Array.getElem?_setIfInBounds_ne (by omega), HCS1.out j hj]
                        unfold ints; rw [List.getElem?_map, List.getElem?_map, List.getElem?_set_ne (by omega)]⟩
                    case measure => simp [intOf]; omega
            · have em : m = 0 := by omega
              subst em
              have HFIN := Lib.hid (show ps = shareF ch ws from HGA.out)
              clear h
              go_wp2
              go_ret2
              have hfl : (shareF ch ws).length = k2 := by rw [← HFIN.out]; exact HPS.out
              exact ⟨_, _, _, rfl, ⟨slc_of_blk HB1.out hgl hzz1 hcap1 hcap2 hfl (by rw [← HFIN.out]; exact HCS1.out), fun _ => ⟨_, cs1, rfl, HB1.out, hsz1⟩⟩, B1⟩
end Go.Proofs.Ytgcnhojiaaonmaa
