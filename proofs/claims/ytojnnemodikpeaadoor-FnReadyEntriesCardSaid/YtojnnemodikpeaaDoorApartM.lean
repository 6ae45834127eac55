/-
  What is put into a line; lists of indices; the deeds of one line alone; without the refused deeds: the plain laws.
-/
import Derived.Test.YtojnnemodikpeaaDoorRunA
import Derived.Test.YtojnnemodikpeaaDoorSpecR
import Derived.Test.YtojnnemodikpeaaDoorLeftI
namespace Go.Proofs.YtojnnemodikpeaaDoor
set_option linter.unusedVariables false
/-- The words that were put into line l by the first k deeds. -/
def putsUpto (k : Nat) (ds : List DeedD) (ans : List (List UInt8)) (l : Nat) : List Int :=
  ((List.range k).filter fun i => decide ((ds.getD i ⟨⟨#[]⟩, 0, 0⟩).a = l) && (ans.getD i [] == tPut)).map fun i => (ds.getD i ⟨⟨#[]⟩, 0, 0⟩).b
theorem putsUpto_zero (ds : List DeedD) (ans : List (List UInt8)) (l : Nat) : putsUpto 0 ds ans l = [] := rfl
theorem putsUpto_succ {k : Nat} {ds : List DeedD} {ans : List (List UInt8)} {l : Nat} {d : DeedD} {t : List UInt8} (hd : ds[k]? = some d) (ht : ans[k]? = some t) : putsUpto (k + 1) ds ans l = putsUpto k ds ans l ++ (if (decide (d.a = l) && (t == tPut)) then [d.b] else []) := by
  unfold putsUpto
  have e1 : ds.getD k ⟨⟨#[]⟩, 0, 0⟩ = d := by rw [List.getD_eq_getElem?_getD, hd]; rfl
  have e2 : ans.getD k [] = t := by rw [List.getD_eq_getElem?_getD, ht]; rfl
  rw [List.range_succ, List.filter_append, List.map_append]
  congr 1
  simp only [List.filter_cons, List.filter_nil, e1, e2]
  split <;> simp [hd]
theorem putsUpto_len (k : Nat) (ds : List DeedD) (ans : List (List UInt8)) (l : Nat) : (putsUpto k ds ans l).length ≤ k := by
  unfold putsUpto
  rw [List.length_map]
  exact Nat.le_trans (List.length_filter_le _ _) (by simp)
theorem ans_at {rooms : List Int} {ds : List DeedD} {k : Nat} {d : DeedD} (hk : ds[k]? = some d) : ∀ m, k + 1 ≤ m → (runF rooms (ds.take m)).2[k]? = some (doneF ((runF rooms (ds.take k)).1.getD d.a.toNat ⟨0, [], false, []⟩) d).2 := by
  intro m hm
  induction m with
  | zero => omega
  | succ m ih =>
    by_cases e : m = k
    · subst e
      rw [runF_take hk]
      unfold stepF
      have hl := (runF_len rooms (ds.take m)).2
      have hlt := (List.getElem?_eq_some_iff.1 hk).1
      have hz : (runF rooms (ds.take m)).2.length = m := by rw [hl, List.length_take]; omega
      simp only
      rw [List.getElem?_append_right (by omega), hz]
      simp
    · have ih' := ih (by omega)
      cases hm' : ds[m]? with
      | none =>
        have := List.getElem?_eq_none_iff.1 hm'
        rw [List.take_of_length_le (by omega)] at ih' ⊢
        exact ih'
      | some d' =>
        rw [runF_take hm']
        unfold stepF
        simp only
        rw [List.getElem?_append_left (List.getElem?_eq_some_iff.1 ih').1]
        exact ih'
theorem ans_of {rooms : List Int} {ds : List DeedD} {k : Nat} {d : DeedD} (hk : ds[k]? = some d) : (runF rooms ds).2[k]? = some (doneF ((runF rooms (ds.take k)).1.getD d.a.toNat ⟨0, [], false, []⟩) d).2 := by
  have := ans_at (rooms := rooms) hk ds.length (List.getElem?_eq_some_iff.1 hk).1
  rwa [List.take_length] at this
theorem itoa_not_put {n : Nat} (h : n ≤ 8) : (Lib.itoa (n : Int) == tPut) = false := by
  rw [Lib.itoa_nonneg, Lib.decDigits_one (by omega), beq_eq_false_iff_ne]
  simp [tPut]
theorem took_not_put (x : Int) : (tTook x == tPut) = false := by
  rw [beq_eq_false_iff_ne]
  intro e
  have := congrArg List.head? e
  simp [tTook, tPut] at this
/-- What a line holds, and what was taken from it, is what was put into it. -/
def LineInv (l : Ln) (puts : List Int) : Prop := l.taken ++ l.held = puts ∧ (l.held.length : Int) ≤ l.room ∧ l.room ≤ 8
theorem doneF_inv {l : Ln} {puts : List Int} {d : DeedD} (h : LineInv l puts) (h0 : d.a ≠ 0) : LineInv (doneF l d).1 (puts ++ (if (doneF l d).2 == tPut then [d.b] else [])) := by
  obtain ⟨h1, h2, h3⟩ := h
  have same : ∀ (l' : Ln) (t : List UInt8), l'.held = l.held → l'.taken = l.taken → l'.room = l.room → (t == tPut) = false → doneF l d = (l', t) → LineInv (doneF l d).1 (puts ++ (if (doneF l d).2 == tPut then [d.b] else [])) := by
    intro l' t e1 e2 e3 e4 hv
    rw [hv]
    simp only [e4]
    exact ⟨by simpa [e1, e2] using h1, by rw [e1, e3]; exact h2, by rw [e3]; exact h3⟩
  by_cases c1 : d.act.toList = lookA
  · exact same l _ rfl rfl rfl (itoa_not_put (show l.held.length ≤ 8 by omega)) (by unfold doneF; rw [if_pos c1])
  · by_cases ht : d.act.toList = takeA
    · cases hh : l.held with
      | nil =>
        by_cases he : l.ended = true
        · exact same l tEnded rfl rfl rfl (by decide) (by unfold doneF; rw [if_neg c1, if_neg h0]; simp [ht, hh, he])
        · exact same l tEmpty rfl rfl rfl (by decide) (by unfold doneF; rw [if_neg c1, if_neg h0]; simp [ht, hh, he])
      | cons x xs =>
        have hv : doneF l d = ({ l with held := xs, taken := l.taken ++ [x] }, tTook x) := by unfold doneF; rw [if_neg c1, if_neg h0]; simp [ht, hh]
        rw [hv]
        simp only [took_not_put]
        rw [hh] at h1 h2
        refine ⟨?_, ?_, h3⟩
        · simpa using h1
        · simp at h2 ⊢; omega
    · by_cases he : l.ended = true
      · exact same l tEnded rfl rfl rfl (by decide) (by unfold doneF; rw [if_neg c1, if_neg h0]; simp [ht, he])
      · by_cases c2 : d.act.toList = endA
        · exact same { l with ended := true } tEnd rfl rfl rfl (by decide) (by unfold doneF; rw [if_neg c1, if_neg h0]; simp [c2, he, endA, takeA])
        · by_cases c3 : l.room ≤ (l.held.length : Int)
          · exact same l tFull rfl rfl rfl (by decide) (by unfold doneF; rw [if_neg c1, if_neg h0]; simp [ht, he, c2, c3])
          · have hv : doneF l d = ({ l with held := l.held ++ [d.b] }, tPut) := by unfold doneF; rw [if_neg c1, if_neg h0]; simp [ht, he, c2, c3]
            rw [hv]
            refine ⟨by simp [← h1], ?_, h3⟩
            simp; omega
theorem run_inv {rooms : List Int} {ds : List DeedD} (hd : deedsB rooms ds = true) : ∀ k, k ≤ ds.length → ∀ i l, 1 ≤ i → (runF rooms (ds.take k)).1[i]? = some l → LineInv l (putsUpto k ds (runF rooms ds).2 i) := by
  obtain ⟨_, hr, _, hp⟩ := deedsB_of hd
  intro k
  induction k with
  | zero =>
    intro _ i l hi hl
    unfold runF openF at hl
    simp only [List.take_zero, List.foldl_nil] at hl
    obtain ⟨j, rfl⟩ : ∃ j, i = j + 1 := ⟨i - 1, by omega⟩
    rw [List.getElem?_cons_succ, List.getElem?_map] at hl
    cases hj : rooms[j]? with
    | none => rw [hj] at hl; cases hl
    | some r =>
      rw [hj] at hl
      injection hl with hl
      subst hl
      have := hr r (List.mem_of_getElem? hj)
      exact ⟨rfl, by simp; omega, this.2⟩
  | succ k ih =>
    intro hk i l hi hl
    obtain ⟨d, hdk⟩ : ∃ d, ds[k]? = some d := ⟨_, List.getElem?_eq_getElem (by omega)⟩
    have hpd := hp d (List.mem_of_getElem? hdk)
    have hans := ans_of (rooms := rooms) hdk
    rw [putsUpto_succ hdk hans]
    rw [runF_take hdk] at hl
    unfold stepF at hl
    simp only at hl
    have h0 := hpd.2.1
    have hlen := (runF_len rooms (ds.take k)).1
    by_cases e : d.a.toNat = i
    · rw [e] at hl hans ⊢
      have hil : i < (runF rooms (ds.take k)).1.length := by
        have := (List.getElem?_eq_some_iff.1 hl).1
        rw [List.length_set] at this; exact this
      obtain ⟨l0, hl0⟩ : ∃ l0, (runF rooms (ds.take k)).1[i]? = some l0 := ⟨_, List.getElem?_eq_getElem hil⟩
      have hge : (runF rooms (ds.take k)).1.getD i ⟨0, [], false, []⟩ = l0 := by rw [List.getD_eq_getElem?_getD, hl0]; rfl
      rw [hge] at hl ⊢
      rw [List.getElem?_set_self hil] at hl
      injection hl with hl
      subst hl
      have hda : d.a = (i : Int) := by omega
      have := doneF_inv (d := d) (ih (by omega) i l0 hi hl0) (by omega)
      simpa [hda] using this
    · rw [List.getElem?_set_ne e] at hl
      have hda : ¬ d.a = (i : Int) := by omega
      simpa [hda] using ih (by omega) i l hi hl
set_option linter.unusedVariables false
/-! ### Lists of indices -/
/-- The indices below n at which p holds. -/
def idxs (p : Nat → Bool) (n : Nat) : List Int := ((List.range n).filter p).map fun i : Nat => (i : Int)
theorem idxs_zero (p : Nat → Bool) : idxs p 0 = [] := rfl
theorem idxs_succ (p : Nat → Bool) (n : Nat) : idxs p (n + 1) = idxs p n ++ (if p n then [(n : Int)] else []) := by
  unfold idxs
  rw [List.range_succ, List.filter_append, List.map_append]
  cases h : p n <;> simp [h]
theorem idxs_len (p : Nat → Bool) (n : Nat) : (idxs p n).length ≤ n := by
  unfold idxs
  rw [List.length_map]
  exact Nat.le_trans (List.length_filter_le _ _) (by simp)
theorem idxs_lt {p : Nat → Bool} {n k : Nat} {x : Int} (h : (idxs p n)[k]? = some x) : ∃ i, i < n ∧ x = (i : Int) ∧ p i = true := by
  have hm := List.mem_of_getElem? h
  unfold idxs at hm
  obtain ⟨i, hi, rfl⟩ := List.mem_map.1 hm
  obtain ⟨h1, h2⟩ := List.mem_filter.1 hi
  exact ⟨i, List.mem_range.1 h1, rfl, h2⟩
/-- What stands behind the first ones. -/
theorem idxs_split (p : Nat → Bool) (i : Nat) : ∀ n, i ≤ n → ∃ r, idxs p n = idxs p i ++ r ∧ ∀ x ∈ r, (i : Int) ≤ x ∧ (p i = false → (i : Int) < x) := by
  intro n
  induction n with
  | zero => intro h; obtain rfl : i = 0 := by omega
            exact ⟨[], by simp, fun x hx => by cases hx⟩
  | succ n ih =>
    intro h
    by_cases e : i = n + 1
    · subst e; exact ⟨[], by simp, fun x hx => by cases hx⟩
    · obtain ⟨r, h1, h2⟩ := ih (by omega)
      refine ⟨r ++ (if p n then [(n : Int)] else []), by rw [idxs_succ, h1, List.append_assoc], fun x hx => ?_⟩
      rcases List.mem_append.1 hx with hx | hx
      · exact h2 x hx
      · cases hp : p n with
        | false => rw [hp] at hx; cases hx
        | true =>
          rw [hp] at hx
          obtain rfl : x = (n : Int) := by simpa using hx
          refine ⟨by omega, fun hf => ?_⟩
          have : i ≠ n := by rintro rfl; rw [hp] at hf; cases hf
          omega
theorem idxs_hit {p : Nat → Bool} {i n : Nat} (hi : i < n) (hp : p i = true) : (idxs p n)[(idxs p i).length]? = some (i : Int) := by
  obtain ⟨r, h1, _⟩ := idxs_split p (i + 1) n hi
  rw [h1, idxs_succ, hp]
  simp
theorem idxs_miss {p : Nat → Bool} {i n : Nat} (hi : i ≤ n) (hp : p i = false) : (idxs p n)[(idxs p i).length]? = none ∨ ∃ x, (idxs p n)[(idxs p i).length]? = some x ∧ (i : Int) < x := by
  obtain ⟨r, h1, h2⟩ := idxs_split p i n hi
  rw [h1, List.getElem?_append_right (Nat.le_refl _), Nat.sub_self]
  cases r with
  | nil => exact .inl rfl
  | cons x xs => exact .inr ⟨x, rfl, (h2 x (by simp)).2 hp⟩
theorem idxs_asc (p : Nat → Bool) : ∀ n, (idxs p n).Pairwise (· < ·) := by
  intro n
  induction n with
  | zero => exact List.Pairwise.nil
  | succ n ih =>
    rw [idxs_succ, List.pairwise_append]
    refine ⟨ih, ?_, fun a ha b hb => ?_⟩
    · split
      · exact List.pairwise_singleton _ _
      · exact List.Pairwise.nil
    · obtain ⟨k, hk⟩ := List.getElem?_of_mem ha
      obtain ⟨i, hi, rfl, _⟩ := idxs_lt hk
      cases hp : p n with
      | false => rw [hp] at hb; cases hb
      | true => rw [hp] at hb; obtain rfl : b = (n : Int) := by simpa using hb
                omega
theorem asc_at {xs : List Int} (h : xs.Pairwise (· < ·)) {i j : Nat} {x y : Int} (hij : i < j) (hx : xs[i]? = some x) (hy : xs[j]? = some y) : x < y := by
  obtain ⟨h1, rfl⟩ := List.getElem?_eq_some_iff.1 hx
  obtain ⟨h2, rfl⟩ := List.getElem?_eq_some_iff.1 hy
  exact List.pairwise_iff_getElem.1 h i j h1 h2 hij
theorem refUpto_idxs (k : Nat) (ls : List (List UInt8)) : refUpto k ls = idxs (fun i => refT (ls.getD i [])) k := rfl
theorem openUpto_idxs (k : Nat) (ls : List Ln) : openUpto k ls = idxs (fun i => decide (1 ≤ i) && !(ls.getD i ⟨0, [], false, []⟩).ended) k := rfl
/-! ### Runs -/
theorem runF_snoc (rooms : List Int) (ds : List DeedD) (d : DeedD) : runF rooms (ds ++ [d]) = stepF (runF rooms ds) d := by
  unfold runF; rw [List.foldl_append]; rfl
theorem deedsB_sub {rooms : List Int} {ds ds' : List DeedD} (h : deedsB rooms ds = true) (hl : ds'.length ≤ 60) (hs : ∀ d ∈ ds', d ∈ ds) : deedsB rooms ds' = true := by
  unfold deedsB at h ⊢
  simp only [Bool.and_eq_true, decide_eq_true_eq, List.all_eq_true] at h ⊢
  exact ⟨⟨h.1.1, hl⟩, fun d hd => h.2 d (hs d hd)⟩
theorem itoa_small {n : Nat} (h : n ≤ 8) : ∃ c, Lib.itoa (n : Int) = [c] := by
  rw [Lib.itoa_nonneg, Lib.decDigits_one (by omega)]; exact ⟨_, rfl⟩
/-- What a deed's answer says. -/
structure Told (l : Ln) (d : DeedD) (l' : Ln) (t : List UInt8) : Prop where
  look : d.act.toList = lookA → ∃ c, t = [c]
  ref : refT t = true → l' = l
  end1 : l.ended = true → (t == tPut) = false ∧ (t == tEnd) = false ∧ (t == tEmpty) = false ∧ (t == tFull) = false
  end0 : l.ended = false → (t == tEnded) = false
  ended : l'.ended = (l.ended || (t == tEnd))
theorem took_ne (x : Int) (c : UInt8) (l : List UInt8) (h : c ≠ 116) : (tTook x == c :: l) = false := by
  rw [beq_eq_false_iff_ne]
  intro e
  have := congrArg List.head? e
  simp [tTook] at this
  exact h this.symm
theorem told_same {l : Ln} {d : DeedD} {t : List UInt8} (hl : ¬ d.act.toList = lookA) (e1 : l.ended = true → (t == tPut) = false ∧ (t == tEnd) = false ∧ (t == tEmpty) = false ∧ (t == tFull) = false) (e0 : l.ended = false → (t == tEnded) = false) (e2 : (t == tEnd) = false) : Told l d l t :=
  ⟨fun e => absurd e hl, fun _ => rfl, e1, e0, by rw [e2, Bool.or_false]⟩
theorem told {l : Ln} {d : DeedD} (h : l.held.length ≤ 8) : Told l d (doneF l d).1 (doneF l d).2 := by
  unfold doneF
  split
  · obtain ⟨c, hc⟩ := itoa_small h
    simp only [hc]
    exact ⟨fun _ => ⟨c, rfl⟩, fun _ => rfl, fun _ => by simp [tPut, tEnd, tEmpty, tFull], fun _ => by simp [tEnded], by simp [tEnd]⟩
  next hlk =>
  split
  · exact told_same (t := tNever) hlk (fun _ => by decide) (fun _ => by decide) (by decide)
  split
  · have n1 : ∀ x, (tTook x == tPut) = false := fun x => by unfold tPut; exact took_ne _ _ _ (by decide)
    have n2 : ∀ x, (tTook x == tEnd) = false := fun x => by unfold tEnd; exact took_ne _ _ _ (by decide)
    have n3 : ∀ x, (tTook x == tEmpty) = false := fun x => by unfold tEmpty; exact took_ne _ _ _ (by decide)
    have n4 : ∀ x, (tTook x == tFull) = false := fun x => by unfold tFull; exact took_ne _ _ _ (by decide)
    have n5 : ∀ x, (tTook x == tEnded) = false := fun x => by unfold tEnded; exact took_ne _ _ _ (by decide)
    have n6 : ∀ x, (tTook x == tNever) = false := fun x => by unfold tNever; exact took_ne _ _ _ (by decide)
    exact ⟨fun e => absurd e hlk, fun e => by simp [refT, n3, n4, n5, n6] at e, fun _ => ⟨n1 _, n2 _, n3 _, n4 _⟩, fun _ => n5 _, by simp [n2]⟩
  · split
    · next he => exact told_same (t := tEnded) hlk (fun _ => by decide) (fun e => by rw [he] at e; cases e) (by decide)
    · next he =>
      have he' : l.ended = false := by simpa using he
      split
      · exact told_same (t := tEmpty) hlk (fun e => by rw [he'] at e; cases e) (fun _ => by decide) (by decide)
      split
      · exact ⟨fun e => absurd e hlk, fun e => absurd e (by simp [refT, tFull, tEmpty, tEnded, tNever, tEnd]), fun e => (by rw [he'] at e; cases e), fun _ => (by simp [tEnd, tEnded]), by simp [tEnd]⟩
      split
      · exact told_same (t := tFull) hlk (fun e => by rw [he'] at e; cases e) (fun _ => by decide) (by decide)
      · exact ⟨fun e => absurd e hlk, fun e => absurd e (by simp [refT, tFull, tEmpty, tEnded, tNever, tPut]), fun e => (by rw [he'] at e; cases e), fun _ => (by simp [tPut, tEnded]), by simp [tEnd, tPut]⟩
theorem held8 {rooms : List Int} {ds : List DeedD} (hd : deedsB rooms ds = true) {k : Nat} (hk : k ≤ ds.length) (i : Nat) : ((runF rooms (ds.take k)).1.getD i ⟨0, [], false, []⟩).held.length ≤ 8 := by
  rw [List.getD_eq_getElem?_getD]
  cases hq : (runF rooms (ds.take k)).1[i]? with
  | none => simp
  | some l =>
    by_cases h1 : 1 ≤ i
    · have := run_inv hd k hk i l h1 hq
      have h2 := this.2.1
      have h3 := this.2.2
      simp; omega
    · obtain rfl : i = 0 := by omega
      have : ∀ j, j ≤ k → ∀ l, (runF rooms (ds.take j)).1[0]? = some l → l.held = [] := by
        intro j
        induction j with
        | zero => intro _ l hl; simp [runF, openF] at hl; subst hl; rfl
        | succ j ih =>
          intro hj l hl
          obtain ⟨d, hdj⟩ : ∃ d, ds[j]? = some d := ⟨_, List.getElem?_eq_getElem (by omega)⟩
          rw [runF_take hdj] at hl
          unfold stepF at hl
          simp only at hl
          have hlen := (runF_len rooms (ds.take j)).1
          obtain ⟨l0, hl0⟩ : ∃ l0, (runF rooms (ds.take j)).1[0]? = some l0 := ⟨_, List.getElem?_eq_getElem (by omega)⟩
          have h0 := ih (by omega) l0 hl0
          by_cases ea : d.a.toNat = 0
          · rw [ea] at hl
            rw [List.getElem?_set_self (by omega)] at hl
            injection hl with hl
            have hge : (runF rooms (ds.take j)).1.getD 0 ⟨0, [], false, []⟩ = l0 := by rw [List.getD_eq_getElem?_getD, hl0]; rfl
            rw [hge] at hl
            have hda : d.a = 0 := by
              have := ((deedsB_of hd).2.2.2 d (List.mem_of_getElem? hdj)).2.1
              omega
            subst hl
            unfold doneF
            rw [if_pos hda]
            split <;> exact h0
          · rw [List.getElem?_set_ne ea] at hl
            exact ih (by omega) l hl
      simp [this k (Nat.le_refl _) l hq]
/-- The line of the deed number k, ahead of it. -/
def lnAt (rooms : List Int) (ds : List DeedD) (k : Nat) (i : Nat) : Ln := (runF rooms (ds.take k)).1.getD i ⟨0, [], false, []⟩
theorem told_at {rooms : List Int} {ds : List DeedD} (hd : deedsB rooms ds = true) {k : Nat} {d : DeedD} {t : List UInt8} (hk : ds[k]? = some d) (ht : (runF rooms ds).2[k]? = some t) :
    Told (lnAt rooms ds k d.a.toNat) d (lnAt rooms ds (k + 1) d.a.toNat) t := by
  have hkl := (List.getElem?_eq_some_iff.1 hk).1
  have e := (ans_of (rooms := rooms) hk).symm.trans ht
  injection e with e
  have hl : lnAt rooms ds (k + 1) d.a.toNat = (doneF (lnAt rooms ds k d.a.toNat) d).1 := by
    unfold lnAt
    rw [runF_take hk]
    unfold stepF
    simp only
    have hp := (deedsB_of hd).2.2.2 d (List.mem_of_getElem? hk)
    have h1 := hp.2.1
    have h2 := hp.2.2.1
    rw [List.getD_eq_getElem?_getD, List.getElem?_set_self (by rw [(runF_len rooms (ds.take k)).1]; omega)]
    rfl
  rw [hl, ← e]
  exact told (held8 hd (by omega) _)
theorem lnAt_other {rooms : List Int} {ds : List DeedD} {k : Nat} {d : DeedD} (hk : ds[k]? = some d) {i : Nat} (h : d.a.toNat ≠ i) : lnAt rooms ds (k + 1) i = lnAt rooms ds k i := by
  unfold lnAt
  rw [runF_take hk]
  unfold stepF
  simp only
  rw [List.getD_eq_getElem?_getD, List.getElem?_set_ne h, ← List.getD_eq_getElem?_getD]
theorem lnAt_zero (rooms : List Int) (ds : List DeedD) (i : Nat) : (lnAt rooms ds 0 i).ended = false := by
  unfold lnAt runF openF
  simp only [List.take_zero, List.foldl_nil]
  rw [List.getD_eq_getElem?_getD]
  cases i with
  | zero => rfl
  | succ i =>
    rw [List.getElem?_cons_succ, List.getElem?_map]
    cases rooms[i]? <;> rfl
theorem lnAt_end (rooms : List Int) (ds : List DeedD) (i : Nat) : lnAt rooms ds ds.length i = (runF rooms ds).1.getD i ⟨0, [], false, []⟩ := by
  unfold lnAt; rw [List.take_length]
/-! ### The deeds of one line alone -/
def ownUpto (k : Nat) (ds : List DeedD) (l : Nat) : List DeedD := (ds.take k).filter fun d => decide (d.a = (l : Int))
def toldUpto (k : Nat) (ds : List DeedD) (ans : List (List UInt8)) (l : Nat) : List (List UInt8) :=
  ((List.range k).filter fun i => decide ((ds.getD i ⟨⟨#[]⟩, 0, 0⟩).a = (l : Int))).map fun i => ans.getD i []
theorem ownUpto_succ {k : Nat} {ds : List DeedD} {l : Nat} {d : DeedD} (hd : ds[k]? = some d) : ownUpto (k + 1) ds l = ownUpto k ds l ++ (if d.a = (l : Int) then [d] else []) := by
  obtain ⟨hk, e⟩ := List.getElem?_eq_some_iff.1 hd
  unfold ownUpto
  rw [List.take_succ_eq_append_getElem hk, List.filter_append, e]
  congr 1
  by_cases h : d.a = (l : Int) <;> simp [h]
theorem toldUpto_succ {k : Nat} {ds : List DeedD} {ans : List (List UInt8)} {l : Nat} {d : DeedD} {t : List UInt8} (hd : ds[k]? = some d) (ht : ans[k]? = some t) :
    toldUpto (k + 1) ds ans l = toldUpto k ds ans l ++ (if d.a = (l : Int) then [t] else []) := by
  unfold toldUpto
  have e1 : ds.getD k ⟨⟨#[]⟩, 0, 0⟩ = d := by rw [List.getD_eq_getElem?_getD, hd]; rfl
  have e2 : ans.getD k [] = t := by rw [List.getD_eq_getElem?_getD, ht]; rfl
  rw [List.range_succ, List.filter_append, List.map_append]
  congr 1
  simp only [List.filter_cons, List.filter_nil, e1]
  by_cases h : d.a = (l : Int) <;> simp [h, ht]
theorem ownUpto_len (k : Nat) (ds : List DeedD) (l : Nat) : (ownUpto k ds l).length ≤ k := by
  unfold ownUpto
  exact Nat.le_trans (List.length_filter_le _ _) (by simp; omega)
theorem toldUpto_len {k : Nat} {ds : List DeedD} {ans : List (List UInt8)} {l : Nat} (hk : k ≤ ds.length) (ha : ans.length = ds.length) : (toldUpto k ds ans l).length = (ownUpto k ds l).length := by
  induction k with
  | zero => rfl
  | succ k ih =>
    rw [ownUpto_succ (List.getElem?_eq_getElem (show k < ds.length by omega)), toldUpto_succ (List.getElem?_eq_getElem (show k < ds.length by omega)) (List.getElem?_eq_getElem (show k < ans.length by omega)), List.length_append, List.length_append, ih (by omega)]
    split <;> rfl
theorem apart {rooms : List Int} {ds : List DeedD} (hd : deedsB rooms ds = true) {l : Nat} (hl : l ≤ rooms.length) : ∀ k, k ≤ ds.length →
    (runF rooms (ownUpto k ds l)).1[l]? = (runF rooms (ds.take k)).1[l]? ∧ (runF rooms (ownUpto k ds l)).2 = toldUpto k ds (runF rooms ds).2 l := by
  intro k
  induction k with
  | zero => intro _; exact ⟨rfl, rfl⟩
  | succ k ih =>
    intro hk
    obtain ⟨h1, h2⟩ := ih (by omega)
    obtain ⟨d, hdk⟩ : ∃ d, ds[k]? = some d := ⟨_, List.getElem?_eq_getElem (by omega)⟩
    have hans := ans_of (rooms := rooms) hdk
    have hp := ((deedsB_of hd).2.2.2 d (List.mem_of_getElem? hdk)).2.1
    rw [ownUpto_succ hdk, toldUpto_succ hdk hans, runF_take hdk]
    by_cases e : d.a = (l : Int)
    · have ea : d.a.toNat = l := by omega
      rw [if_pos e, if_pos e, runF_snoc]
      unfold stepF
      simp only [ea]
      have hg : (runF rooms (ownUpto k ds l)).1.getD l ⟨0, [], false, []⟩ = (runF rooms (ds.take k)).1.getD l ⟨0, [], false, []⟩ := by
        rw [List.getD_eq_getElem?_getD, List.getD_eq_getElem?_getD, h1]
      rw [hg]
      refine ⟨?_, by rw [h2]⟩
      rw [List.getElem?_set_self (by rw [(runF_len _ _).1]; omega), List.getElem?_set_self (by rw [(runF_len _ _).1]; omega)]
    · have ea : d.a.toNat ≠ l := by omega
      rw [if_neg e, if_neg e, List.append_nil, List.append_nil]
      unfold stepF
      simp only
      exact ⟨by rw [List.getElem?_set_ne ea]; exact h1, h2⟩
theorem own_ok {rooms : List Int} {ds : List DeedD} (hd : deedsB rooms ds = true) (l k : Nat) : deedsB rooms (ownUpto k ds l) = true := by
  refine deedsB_sub hd ?_ fun d h => List.mem_of_mem_take (List.mem_filter.1 h).1
  have := (deedsB_of hd).2.2.1
  unfold ownUpto
  have h1 := List.length_filter_le (fun d => decide (d.a = (l : Int))) (ds.take k)
  have h2 : (ds.take k).length ≤ ds.length := by simp; omega
  omega
theorem own_told {rooms : List Int} {ds : List DeedD} (hd : deedsB rooms ds = true) {l : Nat} (hl : l ≤ rooms.length) : runLinesF rooms (ownUpto ds.length ds l) = (toldUpto ds.length ds (runLinesF rooms ds).1 l, true) := by
  unfold runLinesF
  rw [hd, own_ok hd]
  simp only [if_true]
  rw [(apart hd hl ds.length (Nat.le_refl _)).2]
theorem own_left {rooms : List Int} {ds : List DeedD} (hd : deedsB rooms ds = true) {l : Nat} (hl : l ≤ rooms.length) (h1 : 1 ≤ l) : (leftF rooms (ownUpto ds.length ds l)).1[l - 1]? = (leftF rooms ds).1[l - 1]? := by
  unfold leftF
  rw [hd, own_ok hd]
  simp only [if_true]
  rw [List.getElem?_map, List.getElem?_map, List.getElem?_drop, List.getElem?_drop, show 1 + (l - 1) = l by omega, (apart hd hl ds.length (Nat.le_refl _)).1, List.take_length]
/-! ### Without the refused deeds -/
def keptUpto (k : Nat) (ds : List DeedD) (ans : List (List UInt8)) : List DeedD := ((List.range k).filter fun i => !refT (ans.getD i [])).map fun i => ds.getD i ⟨⟨#[]⟩, 0, 0⟩
def toldK (k : Nat) (ans : List (List UInt8)) : List (List UInt8) := ((List.range k).filter fun i => !refT (ans.getD i [])).map fun i => ans.getD i []
theorem keptUpto_succ {k : Nat} {ds : List DeedD} {ans : List (List UInt8)} {d : DeedD} {t : List UInt8} (hd : ds[k]? = some d) (ht : ans[k]? = some t) :
    keptUpto (k + 1) ds ans = keptUpto k ds ans ++ (if refT t then [] else [d]) := by
  unfold keptUpto
  have e1 : ds.getD k ⟨⟨#[]⟩, 0, 0⟩ = d := by rw [List.getD_eq_getElem?_getD, hd]; rfl
  have e2 : ans.getD k [] = t := by rw [List.getD_eq_getElem?_getD, ht]; rfl
  rw [List.range_succ, List.filter_append, List.map_append]
  congr 1
  simp only [List.filter_cons, List.filter_nil, e2]
  cases refT t <;> simp [hd]
theorem toldK_succ {k : Nat} {ans : List (List UInt8)} {t : List UInt8} (ht : ans[k]? = some t) : toldK (k + 1) ans = toldK k ans ++ (if refT t then [] else [t]) := by
  unfold toldK
  have e2 : ans.getD k [] = t := by rw [List.getD_eq_getElem?_getD, ht]; rfl
  rw [List.range_succ, List.filter_append, List.map_append]
  congr 1
  simp only [List.filter_cons, List.filter_nil, e2]
  cases refT t <;> simp [ht]
theorem keptUpto_len (k : Nat) (ds : List DeedD) (ans : List (List UInt8)) : (keptUpto k ds ans).length ≤ k := by
  unfold keptUpto
  rw [List.length_map]
  exact Nat.le_trans (List.length_filter_le _ _) (by simp)
theorem toldK_len (k : Nat) (ds : List DeedD) (ans : List (List UInt8)) : (toldK k ans).length = (keptUpto k ds ans).length := by
  unfold keptUpto toldK
  rw [List.length_map, List.length_map]
theorem set_getD {α : Type} (xs : List α) (i : Nat) (d : α) : xs.set i (xs.getD i d) = xs := by
  apply List.ext_getElem?
  intro j
  by_cases e : i = j
  · subst e
    rw [List.getElem?_set, List.getD_eq_getElem?_getD]
    simp only [if_true]
    split
    · next h => rw [List.getElem?_eq_getElem h]; rfl
    · next h => rw [List.getElem?_eq_none (by omega)]
  · rw [List.getElem?_set_ne e]
theorem kept_run {rooms : List Int} {ds : List DeedD} (hd : deedsB rooms ds = true) : ∀ k, k ≤ ds.length → runF rooms (keptUpto k ds (runF rooms ds).2) = ((runF rooms (ds.take k)).1, toldK k (runF rooms ds).2) := by
  intro k
  induction k with
  | zero => intro _; rfl
  | succ k ih =>
    intro hk
    have ih' := ih (by omega)
    obtain ⟨d, hdk⟩ : ∃ d, ds[k]? = some d := ⟨_, List.getElem?_eq_getElem (by omega)⟩
    have hans := ans_of (rooms := rooms) hdk
    have ht := told (d := d) (held8 hd (show k ≤ ds.length by omega) d.a.toNat)
    rw [keptUpto_succ hdk hans, toldK_succ hans, runF_take hdk]
    unfold stepF
    simp only
    cases hr : refT (doneF ((runF rooms (ds.take k)).1.getD d.a.toNat ⟨0, [], false, []⟩) d).2 with
    | true =>
      simp only [if_true, List.append_nil]
      rw [ht.ref hr, set_getD]
      exact ih'
    | false =>
      simp only [Bool.false_eq_true, if_false]
      rw [runF_snoc, ih']
      rfl
theorem kept_ok {rooms : List Int} {ds : List DeedD} (hd : deedsB rooms ds = true) {k : Nat} (hk : k ≤ ds.length) (ans : List (List UInt8)) : deedsB rooms (keptUpto k ds ans) = true := by
  have h6 := (deedsB_of hd).2.2.1
  refine deedsB_sub hd (Nat.le_trans (keptUpto_len _ _ _) (by omega)) fun d h => ?_
  unfold keptUpto at h
  obtain ⟨i, hi, rfl⟩ := List.mem_map.1 h
  have := List.mem_range.1 (List.mem_filter.1 hi).1
  rw [List.getD_eq_getElem?_getD, List.getElem?_eq_getElem (show i < ds.length by omega)]
  exact List.getElem_mem _
theorem kept_told {rooms : List Int} {ds : List DeedD} (hd : deedsB rooms ds = true) : runLinesF rooms (keptUpto ds.length ds (runLinesF rooms ds).1) = (toldK ds.length (runLinesF rooms ds).1, true) := by
  unfold runLinesF
  rw [hd, kept_ok hd (Nat.le_refl _)]
  simp only [if_true]
  rw [kept_run hd ds.length (Nat.le_refl _)]
theorem kept_left {rooms : List Int} {ds : List DeedD} (hd : deedsB rooms ds = true) : leftF rooms (keptUpto ds.length ds (runLinesF rooms ds).1) = leftF rooms ds := by
  unfold leftF runLinesF
  rw [hd, kept_ok hd (Nat.le_refl _)]
  simp only [if_true]
  rw [kept_run hd ds.length (Nat.le_refl _), List.take_length]
theorem toldK_ref (k : Nat) (ans : List (List UInt8)) : ∀ t ∈ toldK k ans, refT t = false := by
  intro t ht
  unfold toldK at ht
  obtain ⟨i, hi, rfl⟩ := List.mem_map.1 ht
  have := (List.mem_filter.1 hi).2
  simpa using this
theorem kept_ref {rooms : List Int} {ds : List DeedD} (hd : deedsB rooms ds = true) : refusedF rooms (keptUpto ds.length ds (runLinesF rooms ds).1) = [] := by
  unfold refusedF
  rw [kept_told hd]
  simp only
  rw [refUpto_idxs]
  generalize hq : toldK ds.length (runLinesF rooms ds).1 = q
  have hall : ∀ t ∈ q, refT t = false := by rw [← hq]; exact toldK_ref _ _
  unfold idxs
  rw [List.map_eq_nil_iff, List.filter_eq_nil_iff]
  intro i hi
  have hi' := List.mem_range.1 hi
  rw [List.getD_eq_getElem?_getD, List.getElem?_eq_getElem hi']
  simp [hall _ (List.getElem_mem hi')]
/-- A refused deed does not look. -/
theorem ref_look {rooms : List Int} {ds : List DeedD} (hd : deedsB rooms ds = true) {k : Nat} {d : DeedD} {t : List UInt8} (hk : ds[k]? = some d) (ht : (runF rooms ds).2[k]? = some t) (hr : refT t = true) : (d.act.toList == lookA) = false := by
  rw [beq_eq_false_iff_ne]
  intro e
  obtain ⟨c, rfl⟩ := (told_at hd hk ht).look e
  simp [refT, tFull, tEmpty, tEnded, tNever] at hr
/-! ### The room of a line stays -/
theorem doneF_room (l : Ln) (d : DeedD) : (doneF l d).1.room = l.room := by
  unfold doneF
  split
  · rfl
  split
  · rfl
  split
  · rfl
  · split
    · rfl
    split
    · rfl
    split
    · rfl
    split <;> rfl
theorem run_rooms (rooms : List Int) (ds : List DeedD) : (runF rooms ds).1.map Ln.room = 0 :: rooms := by
  have : ∀ (ds : List DeedD) (s : List Ln × List (List UInt8)), (ds.foldl stepF s).1.map Ln.room = s.1.map Ln.room := by
    intro ds
    induction ds with
    | nil => intro s; rfl
    | cons d ds ih =>
      intro s
      rw [List.foldl_cons, ih]
      unfold stepF
      simp only
      rw [List.map_set, doneF_room, show (s.1.getD d.a.toNat ⟨0, [], false, []⟩).room = (s.1.map Ln.room).getD d.a.toNat 0 by
        rw [List.getD_eq_getElem?_getD, List.getD_eq_getElem?_getD, List.getElem?_map]
        cases s.1[d.a.toNat]? <;> rfl]
      exact set_getD _ _ _
  unfold runF
  rw [this]
  unfold openF
  simp [Function.comp_def]
theorem room_at {rooms : List Int} {ds : List DeedD} {k : Nat} {l : Ln} (h : (runF rooms ds).1[k + 1]? = some l) : rooms[k]? = some l.room := by
  have := run_rooms rooms ds
  have e := congrArg (fun x => x[k + 1]?) this
  simp only [List.getElem?_map, h, List.getElem?_cons_succ] at e
  exact e.symm
end Go.Proofs.YtojnnemodikpeaaDoor
