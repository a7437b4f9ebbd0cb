/- Swaps, plain: the deal of trading is the only one that no set blocks. -/
import Derived.Test.YtkmmngphcodjjaaBZ
namespace Go.Abs.Sp
open AVal

theorem mem_comps {n : Nat} (hn : n ≤ 6) {set : Int} : ∀ (m i : Nat) (left : Int) (pre : List Int), i + m = n → isSet left → pre.length = i → ∀ o, o ∈ comps n set m i left pre → o.length = n ∧ o.take i = pre ∧
    (∀ j, i ≤ j → j < n → outS set j = false → ∃ c : Nat, c < n ∧ o.getD j 0 = c ∧ has left c = true) ∧ ∀ j k, i ≤ j → j < k → k < n → outS set j = false → outS set k = false → o.getD j 0 ≠ o.getD k 0
  | 0, i, left, pre, him, _, hp, o, ho => by
    simp only [comps, List.mem_singleton] at ho
    subst ho
    exact ⟨by omega, List.take_of_length_le (by omega), fun j h1 h2 => by omega, fun j k h1 h2 h3 => by omega⟩
  | m + 1, i, left, pre, him, hl, hp, o, ho => by
    rw [comps] at ho
    by_cases hb : (bitAt set i == 0) = true
    · rw [if_pos hb] at ho
      obtain ⟨h1, h2, h3, h4⟩ := mem_comps hn m (i + 1) left (pre ++ [0]) (by omega) hl (by simp; omega) o ho
      have hi : ∀ j, i ≤ j → outS set j = false → i + 1 ≤ j := fun j hj ho => by
        by_cases e : j = i
        · rw [e, show outS set i = true from hb] at ho; cases ho
        · omega
      refine ⟨h1, ?_, fun j hj hjn hjo => h3 j (hi j hj hjo) hjn hjo, fun j k hj hjk hkn hjo hko => h4 j k (hi j hj hjo) hjk hkn hjo hko⟩
      have := congrArg (List.take i) h2
      rwa [List.take_take, show min i (i + 1) = i by omega, List.take_append_of_le_length (by omega), List.take_of_length_le (l := pre) (by omega)] at this
    · rw [if_neg hb, List.mem_flatMap] at ho
      obtain ⟨c, hc, ho⟩ := ho
      have hc := List.mem_range.1 hc
      split at ho
      case isFalse => cases ho
      rename_i hbit
      have hsc := shl_set c (by omega)
      obtain ⟨h1, h2, h3, h4⟩ := mem_comps hn m (i + 1) (butI left (shl1 c)) (pre ++ [(c : Int)]) (by omega) (but_set hl hsc.1) (by simp; omega) o ho
      have hoi : o.getD i 0 = c := by
        have := congrArg (fun l => l.getD i 0) h2
        simp only [List.getD_eq_getElem?_getD, List.getElem?_take, show i < i + 1 by omega, if_true, List.getElem?_append_right (show pre.length ≤ i by omega), hp, Nat.sub_self, List.getElem?_cons_zero, Option.getD_some] at this
        rw [List.getD_eq_getElem?_getD]; exact this
      have h3' : ∀ j, i + 1 ≤ j → j < n → outS set j = false → ∃ c' : Nat, c' < n ∧ o.getD j 0 = c' ∧ has left c' = true ∧ c' ≠ c := fun j hj hjn hjo => by
        obtain ⟨c', e1, e2, e3⟩ := h3 j hj hjn hjo
        rw [has_but hl hsc.1 (by omega), hsc.2 c' (by omega)] at e3
        simp at e3
        exact ⟨c', e1, e2, e3.1, e3.2⟩
      refine ⟨h1, ?_, fun j hj hjn hjo => ?_, fun j k hj hjk hkn hjo hko => ?_⟩
      · have := congrArg (List.take i) h2
        rwa [List.take_take, show min i (i + 1) = i by omega, List.take_append_of_le_length (by omega), List.take_of_length_le (l := pre) (by omega)] at this
      · by_cases e : j = i
        · subst e; exact ⟨c, hc, hoi, hbit⟩
        · obtain ⟨c', e1, e2, e3, _⟩ := h3' j (by omega) hjn hjo
          exact ⟨c', e1, e2, e3⟩
      · by_cases e : j = i
        · subst e
          obtain ⟨c', e1, e2, _, e4⟩ := h3' k (by omega) hkn hko
          rw [hoi, e2]; omega
        · exact h4 j k (by omega) hjk hkn hjo hko
theorem comps_mem {n : Nat} (hn : n ≤ 6) {set : Int} {o : List Int} (hol : o.length = n) (h0 : ∀ j, j < n → outS set j = true → o.getD j 0 = 0) (hinj : ∀ j k, j < k → k < n → outS set j = false → outS set k = false → o.getD j 0 ≠ o.getD k 0) :
    ∀ (m i : Nat) (left : Int), i + m = n → isSet left → (∀ j, i ≤ j → j < n → outS set j = false → ∃ c : Nat, c < n ∧ o.getD j 0 = c ∧ has left c = true) → o ∈ comps n set m i left (o.take i)
  | 0, i, left, him, _, _ => by
    rw [comps, List.take_of_length_le (by omega)]; simp
  | m + 1, i, left, him, hl, h => by
    have hio : i < o.length := by omega
    have hstep : ∀ x : Int, o.getD i 0 = x → o.take i ++ [x] = o.take (i + 1) := fun x hx => by
      rw [List.take_add_one, List.getElem?_eq_getElem hio]
      rw [List.getD_eq_getElem?_getD, List.getElem?_eq_getElem hio] at hx
      simp at hx
      rw [hx]; rfl
    rw [comps]
    by_cases hb : (bitAt set i == 0) = true
    · rw [if_pos hb, hstep 0 (h0 i (by omega) hb)]
      exact comps_mem hn hol h0 hinj m (i + 1) left (by omega) hl fun j hj hjn hjo => h j (by omega) hjn hjo
    · have hio' : outS set i = false := by rw [outS]; simpa using hb
      obtain ⟨c, hc, hoc, hlc⟩ := h i (Nat.le_refl _) (by omega) hio'
      have hsc := shl_set c (by omega)
      rw [if_neg hb, List.mem_flatMap]
      refine ⟨c, List.mem_range.2 hc, ?_⟩
      rw [if_pos (show (bitAt left (c : Int) == 1) = true from hlc), hstep c hoc]
      refine comps_mem hn hol h0 hinj m (i + 1) _ (by omega) (but_set hl hsc.1) fun j hj hjn hjo => ?_
      obtain ⟨c', e1, e2, e3⟩ := h j (by omega) hjn hjo
      refine ⟨c', e1, e2, ?_⟩
      have hne := hinj i j (by omega) hjn hio' hjo
      rw [hoc, e2] at hne
      rw [has_but hl hsc.1 (by omega), hsc.2 c' (by omega), e3]
      simp; omega

/-- What goes round among some comes from one of them. -/
theorem onto_of {n : Nat} {f : Nat → Nat} {P : Nat → Prop} (h : ∀ i, i < n → P i → f i < n ∧ P (f i)) (hinj : ∀ i j, i < n → j < n → P i → P j → f i = f j → i = j) {j : Nat} (hj : j < n) (hp : P j) : ∃ i, i < n ∧ P i ∧ f i = j := by
  let g : Nat → Nat := fun k => Nat.rec j (fun _ x => f x) k
  have hg : ∀ k, g k < n ∧ P (g k) := fun k => by
    induction k with
    | zero => exact ⟨hj, hp⟩
    | succ k ih => exact h _ ih.1 ih.2
  obtain ⟨a, b, hab, _, e⟩ := pigeon n g fun k _ => (hg k).1
  have back : ∀ a b, a < b → g a = g b → ∃ i, i < n ∧ P i ∧ f i = j := by
    intro a
    induction a with
    | zero =>
      intro b hb e
      obtain ⟨b', rfl⟩ : ∃ b', b = b' + 1 := ⟨b - 1, by omega⟩
      exact ⟨g b', (hg b').1, (hg b').2, e.symm⟩
    | succ a ih =>
      intro b hb e
      obtain ⟨b', rfl⟩ : ∃ b', b = b' + 1 := ⟨b - 1, by omega⟩
      exact ih b' (by omega) (hinj _ _ (hg a).1 (hg b').1 (hg a).2 (hg b').2 e)
  exact back a b hab e

/-- What one gets by trading, and when. -/
theorem fin_round {w : List (List Int)} (g : Good w) {i : Nat} (hi : i < w.length) : ∃ t : Nat, t < w.length ∧ (fin w).1.getD i 0 = t ∧ (fin w).2.getD t 0 = (fin w).2.getD i 0 ∧ 1 ≤ (fin w).2.getD i 0 := by
  obtain ⟨a⟩ := round_of g hi
  exact ⟨a.t, a.ht, a.d, by rw [a.same, a.r], by rw [a.r]; omega⟩
theorem pos_inj {w : List (List Int)} (g : Good w) {i a b : Nat} (hi : i < w.length) (ha : a < w.length) (hb : b < w.length) (h : pos w i a = pos w i b) : a = b := by
  have hm : w.getD i [] ∈ w := getD_mem hi
  have h1 := idx_get (d := 0) (idx_pos (p := fun x => x == (a : Int)) ⟨_, g.cov _ hm a ha, by simp⟩)
  have h2 := idx_get (d := 0) (idx_pos (p := fun x => x == (b : Int)) ⟨_, g.cov _ hm b hb, by simp⟩)
  unfold pos at h
  rw [h] at h1
  rw [beq_iff_eq] at h1 h2
  omega

theorem worse_zero {w : List (List Int)} {set : Int} {a b : List Int} {k : Nat} : worseN w set a b k = 0 ↔ ∀ i, i < k → outS set i = false → pos w i (a.getD i 0) ≤ pos w i (b.getD i 0) := by
  rw [worseN, List.countP_eq_zero]
  simp only [List.mem_range, lessAt, Bool.and_eq_true, Bool.not_eq_true', decide_eq_true_eq, not_and]
  refine forall_congr' fun i => imp_congr_right fun _ => imp_congr_right fun _ => ?_
  omega
theorem better_pos {w : List (List Int)} {set : Int} {a b : List Int} {k : Nat} : 0 < betterN w set a b k ↔ ∃ i, i < k ∧ outS set i = false ∧ pos w i (a.getD i 0) < pos w i (b.getD i 0) := by
  rw [betterN, List.countP_pos_iff]
  simp only [List.mem_range, lessAt, Bool.and_eq_true, Bool.not_eq_true', decide_eq_true_eq]

/-- **No set blocks the deal of trading.** -/
theorem trade_free {w : List (List Int)} (g : Good w) {set : Int} (hs : isSet set) {st : Bool} {o : List Int} (ho : o ∈ comps w.length set w.length 0 set []) : blkP w (fin w).1 set st o = false := by
  cases hb : blkP w (fin w).1 set st o with
  | false => rfl
  | true =>
    exfalso
    rw [blkP, Bool.and_eq_true, beq_iff_eq, Bool.and_eq_true, decide_eq_true_eq, worse_zero, better_pos] at hb
    obtain ⟨hw, ⟨i0, hi0, ho0, hlt⟩, _⟩ := hb
    obtain ⟨-, -, h3, h4⟩ := mem_comps g.n6 w.length 0 set [] (by omega) hs rfl o ho
    have bit : ∀ j, j < w.length → (outS set j = false ↔ has set j = true) := fun j hj => by
      rw [outS, bit_zero hs (show j < 6 by have := g.n6; omega)]; simp
    have key : ∀ r : Nat, ∀ i, i < w.length → outS set i = false → (fin w).2.getD i 0 ≤ r → o.getD i 0 = (fin w).1.getD i 0 := by
      intro r
      induction r with
      | zero => intro i hi _ hr; have := (fin_round g hi).choose_spec.2.2.2; omega
      | succ r ih =>
        intro i hi hio hr
        by_cases hle : (fin w).2.getD i 0 ≤ r
        · exact ih i hi hio hle
        obtain ⟨t, ht, et, er, _⟩ := fin_round g hi
        obtain ⟨c, hc, ec, hcs⟩ := h3 i (by omega) hi hio
        rw [ec, et]
        refine Classical.byContradiction fun hne => ?_
        have hwi := hw i hi hio
        rw [ec, et] at hwi
        have hlt : (fin w).2.getD c 0 < (fin w).2.getD i 0 := by
          refine Int.not_le.1 fun hge => ?_
          have := round_pos g hi hc hge
          rw [et] at this
          have := pos_inj g hi hc ht (by omega)
          omega
        -- whoever has the card by trading is one of the set, and has it there
        obtain ⟨k, hk, ⟨hko, hkr⟩, hkt⟩ := onto_of (n := w.length) (f := fun j => ((fin w).1.getD j 0).toNat) (P := fun j => outS set j = false ∧ (fin w).2.getD j 0 = (fin w).2.getD c 0) (fun j hj hp => by
            obtain ⟨t', ht', et', er', _⟩ := fin_round g hj
            have hoj := ih j hj hp.1 (by omega)
            obtain ⟨c', hc', ec', hcs'⟩ := h3 j (by omega) hj hp.1
            rw [et', Int.toNat_natCast]
            rw [ec', et'] at hoj
            obtain rfl : c' = t' := by omega
            exact ⟨ht', (bit _ ht').2 hcs', by rw [er', hp.2]⟩)
          (fun a b ha hb _ _ e => by
            obtain ⟨ta, hta, ea, _⟩ := fin_round g ha
            obtain ⟨tb, htb, eb, _⟩ := fin_round g hb
            refine fin_inj g ha hb ?_
            rw [ea, eb, Int.toNat_natCast, Int.toNat_natCast] at e
            rw [ea, eb, e]) hc ⟨(bit c hc).2 hcs, rfl⟩
        have hok := ih k hk hko (by omega)
        obtain ⟨tk, htk, etk, _⟩ := fin_round g hk
        rw [etk, Int.toNat_natCast] at hkt
        have hki : k ≠ i := fun e => by subst e; omega
        rw [etk, hkt] at hok
        rcases Nat.lt_or_gt_of_ne hki with h | h
        · exact h4 k i (by omega) h hi hko hio (by rw [hok, ec])
        · exact h4 i k (by omega) h hk hio hko (by rw [hok, ec])
    obtain ⟨_, _, _, _, h1⟩ := fin_round g hi0
    have := key ((fin w).2.getD i0 0).toNat i0 hi0 ho0 (by omega)
    rw [this] at hlt
    omega
def allB6 : Nat → List (List Bool)
  | 0 => [[]]
  | m + 1 => (allB6 m).map (true :: ·) ++ (allB6 m).map (false :: ·)
theorem mem_allB6 : ∀ l : List Bool, l ∈ allB6 l.length
  | [] => by simp [allB6]
  | true :: l => List.mem_append_left _ (List.mem_map.2 ⟨l, mem_allB6 l, rfl⟩)
  | false :: l => List.mem_append_right _ (List.mem_map.2 ⟨l, mem_allB6 l, rfl⟩)
set_option maxRecDepth 100000 in
theorem set_dec : ∀ l ∈ allB6 6, ∃ k, k < 64 ∧ ∀ j : Nat, j < 6 → has (k : Nat) j = l.getD j false := by decide +kernel
/-- A set of those who are so. -/
theorem set_of (p : Nat → Bool) : ∃ k : Nat, k < 64 ∧ ∀ j : Nat, j < 6 → has (k : Nat) j = p j := by
  obtain ⟨k, hk, h⟩ := set_dec ((List.range 6).map p) (by have := mem_allB6 ((List.range 6).map p); simpa using this)
  refine ⟨k, hk, fun j hj => ?_⟩
  rw [h j hj, List.getD_eq_getElem?_getD, List.getElem?_map, List.getElem?_range hj]; rfl
theorem small_dec : ∀ n : Nat, n < 7 → ∀ k : Nat, k < 64 → (∀ j : Nat, j < 6 → n ≤ j → has (k : Nat) j = false) → k < 2 ^ n := by decide +kernel

/-- **Any other deal is blocked by one.** -/
theorem trade_only {w : List (List Int)} (g : Good w) {d : List Int} (hd : isOrder d w.length = true) (hne : d ≠ (fin w).1) : ∃ (k : Nat) (o : List Int), 1 ≤ k ∧ k < 2 ^ w.length ∧ o ∈ comps w.length k w.length 0 k [] ∧ blkP w d k false o = true := by
  have n6 := g.n6
  obtain ⟨hdl, hdr, hdc⟩ := order_spec n6 hd
  have hfl := (fin_len w).1
  -- nobody has the same card in d
  have dinj : ∀ a b, a < w.length → b < w.length → d.getD a 0 = d.getD b 0 → a = b := by
    intro a b ha hb e
    refine Classical.byContradiction fun hab => ?_
    obtain ⟨c0, hc0, hne0⟩ : ∃ c : Nat, c < w.length ∧ ∀ i, i < w.length → d.getD i 0 ≠ (c : Nat) := by
      refine Classical.byContradiction fun hall => ?_
      have hall : ∀ c : Nat, c < w.length → ∃ i, i < w.length ∧ d.getD i 0 = c ∧ i ≠ b := fun c hc => by
        obtain ⟨i, hi, e2⟩ := getD_of_mem (hdc c hc)
        by_cases hib : i = b
        · exact ⟨a, ha, by rw [e, ← hib, e2], hab⟩
        · exact ⟨i, by omega, e2, hib⟩
      have : ∃ f : Nat → Nat, ∀ c, c < w.length → f c < w.length ∧ d.getD (f c) 0 = c ∧ f c ≠ b := ⟨fun c => if h : c < w.length then (hall c h).choose else 0, fun c hc => by
        simp only [hc, dif_pos]; exact (hall c hc).choose_spec⟩
      obtain ⟨f, hf⟩ := this
      obtain ⟨i, hi, _, hib⟩ := onto_of (n := w.length) (f := f) (P := fun _ => True) (fun i hi _ => ⟨(hf i hi).1, trivial⟩) (fun x y hx hy _ _ e2 => by
        have h1 := (hf x hx).2.1
        have h2 := (hf y hy).2.1
        rw [e2, h2] at h1; omega) hb trivial
      exact (hf i hi).2.2 hib
    obtain ⟨i, hi, e2⟩ := getD_of_mem (hdc c0 hc0)
    exact hne0 i (by omega) e2
  have dval : ∀ i, i < w.length → ∃ c : Nat, c < w.length ∧ d.getD i 0 = c := fun i hi => by
    have := hdr _ (getD_mem (d := 0) (show i < d.length by omega))
    exact ⟨(d.getD i 0).toNat, by omega, by omega⟩
  -- the first round in which somebody has another card
  obtain ⟨i1, hi1, hdi1⟩ : ∃ i, i < w.length ∧ d.getD i 0 ≠ (fin w).1.getD i 0 := by
    refine Classical.byContradiction fun hall => hne ?_
    refine List.ext_getElem (by omega) fun i h1 h2 => ?_
    have : d.getD i 0 = (fin w).1.getD i 0 := Classical.byContradiction fun h => hall ⟨i, by omega, h⟩
    rw [List.getD_eq_getElem?_getD, List.getD_eq_getElem?_getD, List.getElem?_eq_getElem h1, List.getElem?_eq_getElem h2] at this
    exact this
  obtain ⟨r, ⟨i, hi, hri, hdi⟩, hmin⟩ : ∃ r : Nat, (∃ i, i < w.length ∧ (fin w).2.getD i 0 = r ∧ d.getD i 0 ≠ (fin w).1.getD i 0) ∧ ∀ i, i < w.length → (fin w).2.getD i 0 < r → d.getD i 0 = (fin w).1.getD i 0 := by
    have key : ∀ m : Nat, (∃ i, i < w.length ∧ (fin w).2.getD i 0 ≤ m ∧ d.getD i 0 ≠ (fin w).1.getD i 0) → ∃ r : Nat, (∃ i, i < w.length ∧ (fin w).2.getD i 0 = r ∧ d.getD i 0 ≠ (fin w).1.getD i 0) ∧ ∀ i, i < w.length → (fin w).2.getD i 0 < r → d.getD i 0 = (fin w).1.getD i 0 := by
      intro m
      induction m with
      | zero => rintro ⟨i, hi, h1, _⟩; have := (fin_round g hi).choose_spec.2.2.2; omega
      | succ m ih =>
        rintro ⟨i, hi, h1, h2⟩
        by_cases hex : ∃ i, i < w.length ∧ (fin w).2.getD i 0 ≤ m ∧ d.getD i 0 ≠ (fin w).1.getD i 0
        · exact ih hex
        · refine ⟨m + 1, ⟨i, hi, ?_, h2⟩, fun j hj hlt => Classical.byContradiction fun h => hex ⟨j, hj, by omega, h⟩⟩
          refine Classical.byContradiction fun h => hex ⟨i, hi, by omega, h2⟩
    obtain ⟨_, _, _, _, h1⟩ := fin_round g hi1
    exact key ((fin w).2.getD i1 0).toNat ⟨i1, hi1, by omega, hdi1⟩
  obtain ⟨k, hk64, hbits⟩ := set_of fun j => decide (j < w.length) && decide ((fin w).2.getD j 0 = r)
  have hks : isSet (k : Int) := ⟨by omega, by omega⟩
  have out : ∀ j, j < w.length → (outS (k : Int) j = false ↔ (fin w).2.getD j 0 = r) := fun j hj => by
    rw [outS, bit_zero hks (show j < 6 by omega), hbits j (by omega)]
    simp [hj]
  have hkn : k < 2 ^ w.length := small_dec w.length (by omega) k hk64 fun j hj hjn => by rw [hbits j hj]; simp; omega
  have hk1 : 1 ≤ k := by
    refine Nat.pos_of_ne_zero fun h => ?_
    have := hbits i (by omega)
    rw [h] at this
    have h0 := has0 i (by omega)
    rw [show ((0 : Nat) : Int) = 0 from rfl, h0] at this
    rw [decide_eq_true hi, decide_eq_true hri] at this
    cases this
  obtain ⟨o, ho⟩ : ∃ o, o = (List.range w.length).map fun j => if (fin w).2.getD j 0 = r then (fin w).1.getD j 0 else 0 := ⟨_, rfl⟩
  have og : ∀ j, j < w.length → o.getD j 0 = if (fin w).2.getD j 0 = r then (fin w).1.getD j 0 else 0 := fun j hj => by
    rw [ho, List.getD_eq_getElem?_getD, List.getElem?_map, List.getElem?_range hj]; rfl
  refine ⟨k, o, hk1, hkn, ?_, ?_⟩
  · have := comps_mem n6 (set := (k : Int)) (o := o) (by rw [ho]; simp) (fun j hj hjo => ?_) (fun a b hab hb hao hbo e => ?_) w.length 0 k (by omega) hks fun j _ hj hjo => ?_
    · rwa [List.take_zero] at this
    · rw [og j hj, if_neg]
      intro h
      rw [(out j hj).2 h] at hjo; cases hjo
    · rw [og a (by omega), og b hb, if_pos ((out a (by omega)).1 hao), if_pos ((out b hb).1 hbo)] at e
      have := fin_inj g (by omega) hb e
      omega
    · have hr := (out j hj).1 hjo
      obtain ⟨t, ht, et, er, _⟩ := fin_round g hj
      refine ⟨t, ht, by rw [og j hj, if_pos hr, et], ?_⟩
      rw [hbits t (by omega)]
      rw [decide_eq_true ht, er, decide_eq_true hr]; rfl
  · rw [blkP, Bool.and_eq_true, beq_iff_eq, Bool.and_eq_true, decide_eq_true_eq, worse_zero, better_pos]
    have hle : ∀ j, j < w.length → (fin w).2.getD j 0 = r → pos w j ((fin w).1.getD j 0) ≤ pos w j (d.getD j 0) := by
      intro j hj hr
      obtain ⟨c, hc, ec⟩ := dval j hj
      rw [ec]
      refine round_pos g hj hc ?_
      refine Int.not_lt.1 fun hlt => ?_
      obtain ⟨x, hx, _, hxt⟩ := onto_of (n := w.length) (f := fun j => ((fin w).1.getD j 0).toNat) (P := fun _ => True) (fun j hj _ => by
          obtain ⟨t', ht', et', _⟩ := fin_round g hj
          rw [et', Int.toNat_natCast]; exact ⟨ht', trivial⟩)
        (fun a b ha hb _ _ e => by
          obtain ⟨ta, hta, ea, _⟩ := fin_round g ha
          obtain ⟨tb, htb, eb, _⟩ := fin_round g hb
          refine fin_inj g ha hb ?_
          rw [ea, eb, Int.toNat_natCast, Int.toNat_natCast] at e
          rw [ea, eb, e]) hc trivial
      obtain ⟨tx, htx, ex, erx, _⟩ := fin_round g hx
      rw [ex, Int.toNat_natCast] at hxt
      subst hxt
      have h1 := hmin x hx (by rw [← erx]; omega)
      have := dinj x j hx hj (by rw [h1, ex, ec])
      subst this
      omega
    refine ⟨fun j hj hjo => ?_, ⟨i, hi, (out i hi).2 hri, ?_⟩, by simp⟩
    · have hr := (out j hj).1 hjo
      rw [og j hj, if_pos hr]; exact hle j hj hr
    · rw [og i hi, if_pos hri]
      have h1 := hle i hi hri
      obtain ⟨t, ht, et, _⟩ := fin_round g hi
      obtain ⟨c, hc, ec⟩ := dval i hi
      rw [et, ec] at h1 ⊢
      refine Int.lt_iff_le_and_ne.2 ⟨h1, fun e => hdi ?_⟩
      rw [et, ec, pos_inj g hi hc ht e.symm]
end Go.Abs.Sp
