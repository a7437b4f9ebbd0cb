/- Basic moves, plain: there are not many. -/
import Derived.Test.YtipfjfmdjmaflaaLW
namespace Go.Abs.Sp
open Go.Abs.Cir
theorem nodup_map {α β : Type} {f : α → β} : ∀ {l : List α}, l.Nodup → (∀ x ∈ l, ∀ y ∈ l, f x = f y → x = y) → (l.map f).Nodup
  | [], _, _ => .nil
  | a :: l, h, hi => by
    rw [List.nodup_cons] at h
    rw [List.map_cons, List.nodup_cons]
    refine ⟨fun hm => ?_, nodup_map h.2 fun x hx y hy => hi x (by simp [hx]) y (by simp [hy])⟩
    obtain ⟨b, hb, e⟩ := List.mem_map.1 hm
    have := hi b (by simp [hb]) a (by simp) e
    subst this
    exact h.1 hb
theorem nodup_len : ∀ {N : Nat} {l : List Nat}, l.Nodup → (∀ x ∈ l, x < N) → l.length ≤ N
  | 0, [], _, _ => by simp
  | 0, x :: l, _, h => by have := h x (by simp); omega
  | N + 1, l, hn, h => by
    have h1 := nodup_len (N := N) (l := l.erase N) (hn.erase N) fun x hx => by
      have h2 := h x (List.mem_of_mem_erase hx)
      have h3 : x ≠ N := fun e => by subst e; exact hn.not_mem_erase hx
      omega
    have h2 := List.length_erase (a := N) (l := l)
    split at h2 <;> omega
theorem count_le {l : List (List Int)} {f : List Int → Nat} {N : Nat} (hn : l.Nodup) (hb : ∀ x ∈ l, f x < N) (hi : ∀ x ∈ l, ∀ y ∈ l, f x = f y → x = y) : l.length ≤ N := by
  have := nodup_len (nodup_map hn hi) (N := N) fun y hy => by
    obtain ⟨x, hx, rfl⟩ := List.mem_map.1 hy
    exact hb x hx
  simpa using this
theorem fn_inj {x y : List Int} (hx : x.length = 4) (hy : y.length = 4) (h : fnV x = fnV y) : x = y := by rw [← L4_fnV hx, ← L4_fnV hy, h]
theorem fn4 {u v : V} (h0 : u 0 = v 0) (h1 : u 1 = v 1) (h2 : u 2 = v 2) (h3 : u 3 = v 3) : u = v := funext (four h0 h1 h2 h3)
/-- A number from three small ones. -/
def c3 (a b c : Int) : Nat := ((a + 2) * 25 + (b + 2) * 5 + (c + 2)).toNat
theorem c3_inj {a b c a' b' c' : Int} (ha : -2 ≤ a ∧ a ≤ 2) (hb : -2 ≤ b ∧ b ≤ 2) (hc : -2 ≤ c ∧ c ≤ 2) (ha' : -2 ≤ a' ∧ a' ≤ 2) (hb' : -2 ≤ b' ∧ b' ≤ 2) (hc' : -2 ≤ c' ∧ c' ≤ 2) (h : c3 a b c = c3 a' b' c') : a = a' ∧ b = b' ∧ c = c' := by
  unfold c3 at h; omega
theorem c3_lt {a b c : Int} (ha : -2 ≤ a ∧ a ≤ 2) (hb : -2 ≤ b ∧ b ≤ 2) (hc : -2 ≤ c ∧ c ≤ 2) : c3 a b c < 125 := by
  unfold c3; omega
/-- Few moves of a row that says something. -/
theorem count1 {r : V} {k : Fin 4} (hk : r k ≠ 0) {l : List (List Int)} (hn : l.Nodup) (h4 : ∀ x ∈ l, x.length = 4) (hb : ∀ x ∈ l, inB 2 x) (h0 : ∀ x ∈ l, dot4 r (fnV x) = 0) : l.length ≤ 125 := by
  have bd : ∀ x ∈ l, ∀ j, -2 ≤ fnV x j ∧ fnV x j ≤ 2 := fun x hx j => inB_fn (hb x hx) j
  have fin : ∀ p q s : Fin 4, (∀ x y : V, dot4 r x = 0 → dot4 r y = 0 → x p = y p → x q = y q → x s = y s → x = y) → l.length ≤ 125 := fun p q s h =>
    count_le (f := fun x => c3 (fnV x p) (fnV x q) (fnV x s)) hn (fun x hx => c3_lt (bd x hx p) (bd x hx q) (bd x hx s)) fun x hx y hy e => by
      obtain ⟨e1, e2, e3⟩ := c3_inj (bd x hx p) (bd x hx q) (bd x hx s) (bd y hy p) (bd y hy q) (bd y hy s) e
      exact fn_inj (h4 x hx) (h4 y hy) (h _ _ (h0 x hx) (h0 y hy) e1 e2 e3)
  revert hk
  refine four (P := fun k => r k ≠ 0 → l.length ≤ 125) ?_ ?_ ?_ ?_ k
  · exact fun hk => fin 1 2 3 fun x y hx hy e1 e2 e3 => by
      unfold dot4 at hx hy
      rw [e1, e2, e3] at hx
      exact fn4 (Int.eq_of_mul_eq_mul_left hk (by omega)) e1 e2 e3
  · exact fun hk => fin 0 2 3 fun x y hx hy e1 e2 e3 => by
      unfold dot4 at hx hy
      rw [e1, e2, e3] at hx
      exact fn4 e1 (Int.eq_of_mul_eq_mul_left hk (by omega)) e2 e3
  · exact fun hk => fin 0 1 3 fun x y hx hy e1 e2 e3 => by
      unfold dot4 at hx hy
      rw [e1, e2, e3] at hx
      exact fn4 e1 e2 (Int.eq_of_mul_eq_mul_left hk (by omega)) e3
  · exact fun hk => fin 0 1 2 fun x y hx hy e1 e2 e3 => by
      unfold dot4 at hx hy
      rw [e1, e2, e3] at hx
      exact fn4 e1 e2 e3 (Int.eq_of_mul_eq_mul_left hk (by omega))
/-- To which side the numbers lie, as a number. -/
def sc (v : V) : Nat := (if v 0 < 0 then 1 else 0) + (if v 1 < 0 then 2 else 0) + (if v 2 < 0 then 4 else 0) + (if v 3 < 0 then 8 else 0)
theorem sc_lt (v : V) : sc v < 16 := by unfold sc; split <;> split <;> split <;> split <;> omega
theorem sc_sgn {u v : V} (h : sc u = sc v) : sgnV u = sgnV v := by
  unfold sc at h
  have key : (u 0 < 0 ↔ v 0 < 0) ∧ (u 1 < 0 ↔ v 1 < 0) ∧ (u 2 < 0 ↔ v 2 < 0) ∧ (u 3 < 0 ↔ v 3 < 0) := by
    by_cases a0 : u 0 < 0 <;> by_cases a1 : u 1 < 0 <;> by_cases a2 : u 2 < 0 <;> by_cases a3 : u 3 < 0 <;> by_cases b0 : v 0 < 0 <;> by_cases b1 : v 1 < 0 <;> by_cases b2 : v 2 < 0 <;> by_cases b3 : v 3 < 0 <;> simp [a0, a1, a2, a3, b0, b1, b2, b3] at h ⊢
  refine fn4 ?_ ?_ ?_ ?_ <;> unfold sgnV <;> simp only [key.1, key.2.1, key.2.2.1, key.2.2.2]
/-- A circuit whose numbers are not below 0 on some side. -/
def Edge (r s σ : V) (j : Fin 4) : Prop := ∃ t : Int, ∃ i, (∀ k, 0 ≤ t * circ (fun k => σ k * r k) (fun k => σ k * s k) j k) ∧ 0 < t * circ (fun k => σ k * r k) (fun k => σ k * s k) j i
open Classical in
noncomputable def edge (r s σ : V) : Fin 4 := if h : ∃ j, Edge r s σ j then h.choose else 0
theorem edge_is {r s σ : V} {j : Fin 4} (h : Edge r s σ j) : Edge r s σ (edge r s σ) := by
  have h' : ∃ j, Edge r s σ j := ⟨j, h⟩
  unfold edge
  rw [dif_pos h']
  exact h'.choose_spec
theorem circ_ne {r s σ : V} (hσ : ∀ k, σ k * σ k = 1) (h : ∃ i j, circ r s i j ≠ 0) : ∃ i j, circ (fun k => σ k * r k) (fun k => σ k * s k) i j ≠ 0 := by
  obtain ⟨i, j, h⟩ := h
  exact ⟨i, j, circ_sgn σ r s hσ h⟩
theorem edge_of {r s : V} (hne : ∃ i j, circ r s i j ≠ 0) {x : V} (hx : dot4 r x = 0 ∧ dot4 s x = 0) (hn : ∃ k, x k ≠ 0) : Edge r s (sgnV x) (edge r s (sgnV x)) := by
  have P := plane (fun k => sgnV x k * r k) (fun k => sgnV x k * s k) (circ_ne (sgn_sq x) hne)
  have hk : dot4 (fun k => sgnV x k * r k) (fun k => sgnV x k * x k) = 0 ∧ dot4 (fun k => sgnV x k * s k) (fun k => sgnV x k * x k) = 0 := by
    rw [← dot4_sgn, ← dot4_sgn, sgnV_sgnV]; exact hx
  obtain ⟨k, hk0⟩ := hn
  obtain ⟨e, f, q, α, β, he, -, -, -, -, he0, -⟩ := P.split hk (sgn_nn x) ⟨k, sgn_ne.2 hk0⟩
  obtain ⟨j, t, ht, hjk, ⟨i, hi⟩⟩ := he
  refine edge_is (j := j) ⟨t, i, fun k => by rw [← hjk k]; exact he0 k, ?_⟩
  have := he0 i
  rw [← hjk i]; omega
/-- On one side, with one number the same, one of two fits into the other. -/
theorem comp {r s σ : V} (hσ : ∀ k, σ k * σ k = 1) (hne : ∃ i j, circ r s i j ≠ 0) {j : Fin 4} (hj : Edge r s σ j) {x y : V} (hx : dot4 r x = 0 ∧ dot4 s x = 0) (hy : dot4 r y = 0 ∧ dot4 s y = 0) (he : σ j * x j = σ j * y j) : (∀ k, σ k * x k ≤ σ k * y k) ∨ (∀ k, σ k * y k ≤ σ k * x k) := by
  have P := plane (fun k => σ k * r k) (fun k => σ k * s k) (circ_ne hσ hne)
  have hK : ∀ z : V, (dot4 r z = 0 ∧ dot4 s z = 0) → dot4 (fun k => σ k * r k) (fun k => σ k * z k) = 0 ∧ dot4 (fun k => σ k * s k) (fun k => σ k * z k) = 0 := fun z hz => by
    have e : ∀ r : V, dot4 (fun k => σ k * r k) (fun k => σ k * z k) = dot4 r z := fun r => by
      unfold dot4
      have e : ∀ k, σ k * r k * (σ k * z k) = r k * z k := fun k => by
        have := hσ k
        grind
      rw [e, e, e, e]
    rw [e, e]; exact hz
  have hz := P.sub _ _ 1 1 (hK y hy) (hK x hx)
  obtain ⟨t, i, ht, hi⟩ := hj
  have law : ∀ k, t * circ (fun k => σ k * r k) (fun k => σ k * s k) j i * (σ k * y k - σ k * x k) = (σ i * y i - σ i * x i) * (t * circ (fun k => σ k * r k) (fun k => σ k * s k) j k) := fun k => by
    have := P.id _ hz i j k
    rw [he] at this
    grind
  by_cases h0 : 0 ≤ σ i * y i - σ i * x i
  · refine .inl fun k => ?_
    have h1 := Int.mul_nonneg h0 (ht k)
    rw [← law k] at h1
    by_cases h2 : 0 ≤ σ k * y k - σ k * x k
    · omega
    · have := Int.mul_neg_of_pos_of_neg hi (show σ k * y k - σ k * x k < 0 by omega)
      omega
  · refine .inr fun k => ?_
    have h1 := Int.mul_nonneg (show 0 ≤ -(σ i * y i - σ i * x i) by omega) (ht k)
    rw [Int.neg_mul, ← law k] at h1
    by_cases h2 : σ k * y k - σ k * x k ≤ 0
    · omega
    · have := Int.mul_pos hi (show 0 < σ k * y k - σ k * x k by omega)
      omega
theorem fit_sgn {x y : List Int} (hx : x.length = 4) (hy : y.length = 4) (hs : sgnV (fnV x) = sgnV (fnV y)) (h : ∀ k, sgnV (fnV x) k * fnV x k ≤ sgnV (fnV x) k * fnV y k) : fitR x y = true := by
  refine fitR_of hx hy fun k => ?_
  have h1 := h k
  have h2 := congrFun hs k
  unfold sgnV at h1 h2
  split at h1 <;> split at h2 <;> omega
/-- Few basic moves of two rows that say two things. -/
theorem count2 {a b : List Int} (ha : a.length = 4) (hb : b.length = 4) {n : Nat} (hne : ∃ i j, circ (fnV a) (fnV b) i j ≠ 0) {l : List (List Int)} (hn : l.Nodup) (hm : ∀ x ∈ l, Mini [a, b] n x) (h16 : ∀ x ∈ l, inB 16 x) : l.length ≤ 272 := by
  have hd : ∀ x ∈ l, dot4 (fnV a) (fnV x) = 0 ∧ dot4 (fnV b) (fnV x) = 0 := fun x hx => by
    have h := (moveB_iff (rows := [a, b]) (fun r hr => by
      rcases List.mem_cons.1 hr with rfl | hr
      · exact ha
      · simp at hr; subst hr; exact hb) (hm x hx).mv.len).1 (hm x hx).mv.mv
    exact ⟨h a (by simp), h b (by simp)⟩
  have bd : ∀ x ∈ l, ∀ k, 0 ≤ sgnV (fnV x) k * fnV x k ∧ sgnV (fnV x) k * fnV x k ≤ 16 := fun x hx k => by
    have h1 := inB_getD (h16 x hx) k.val
    have h2 := sgn_nn (fnV x) k
    have h3 : -16 ≤ fnV x k ∧ fnV x k ≤ 16 := h1
    unfold sgnV at h2 ⊢
    split <;> rename_i h <;> simp only [h, if_true, if_false] at h2 <;> omega
  refine count_le (f := fun x => sc (fnV x) * 17 + (sgnV (fnV x) (edge (fnV a) (fnV b) (sgnV (fnV x))) * fnV x (edge (fnV a) (fnV b) (sgnV (fnV x)))).toNat) hn (fun x hx => ?_) fun x hx y hy e => ?_
  · have h1 := sc_lt (fnV x)
    have h2 := bd x hx (edge (fnV a) (fnV b) (sgnV (fnV x)))
    omega
  · have b1 := bd x hx (edge (fnV a) (fnV b) (sgnV (fnV x)))
    have b2 := bd y hy (edge (fnV a) (fnV b) (sgnV (fnV y)))
    have e1 : sc (fnV x) = sc (fnV y) := by omega
    have es := sc_sgn e1
    rw [← es] at e b2
    have e2 : sgnV (fnV x) (edge (fnV a) (fnV b) (sgnV (fnV x))) * fnV x (edge (fnV a) (fnV b) (sgnV (fnV x))) = sgnV (fnV x) (edge (fnV a) (fnV b) (sgnV (fnV x))) * fnV y (edge (fnV a) (fnV b) (sgnV (fnV x))) := by omega
    have lx := (hm x hx).mv.len
    have ly := (hm y hy).mv.len
    rcases comp (sgn_sq (fnV x)) hne (edge_of hne (hd x hx) ((ne_z4 lx).1 (hm x hx).mv.ne)) (hd x hx) (hd y hy) e2 with h | h
    · exact (hm y hy).min x (hm x hx).mv (fit_sgn lx ly es h)
    · exact ((hm x hx).min y (hm y hy).mv (fit_sgn ly lx es.symm (by rw [← es]; exact h))).symm
/-- Few basic moves. -/
theorem mini_len {rows : List (List Int)} {n : Nat} (hr : Rows4 rows) (hpad : ∀ r ∈ rows, ∀ j, n ≤ j → r.getD j 0 = 0) (hn : n ≤ 4) {l : List (List Int)} (hnd : l.Nodup) (hm : ∀ x ∈ l, Mini rows n x) : l.length ≤ 400 := by
  have hbnd : ∀ x ∈ l, inB (bnd rows n) x := fun x hx => (hm x hx).bnd hr hpad hn
  have h4 : ∀ x ∈ l, x.length = 4 := fun x hx => (hm x hx).mv.len
  have hdot : ∀ r ∈ rows, ∀ x ∈ l, dot4 (fnV r) (fnV x) = 0 := fun r hrm x hx => (moveB_iff hr.len (h4 x hx)).1 (hm x hx).mv.mv r hrm
  have one : ∀ r ∈ rows, r ≠ z4 → bnd rows n = 2 → l.length ≤ 400 := fun r hrm hne hb => by
    obtain ⟨k, hk⟩ := (ne_z4 (hr.len r hrm)).1 hne
    rw [hb] at hbnd
    have := count1 hk hnd h4 hbnd (hdot r hrm)
    omega
  obtain ⟨F, hF⟩ : ∃ F, F = rows.filter (fun r => !(r == z4)) := ⟨_, rfl⟩
  have hFm : ∀ r ∈ F, r ∈ rows ∧ r ≠ z4 := fun r h => by
    rw [hF] at h
    have := List.mem_filter.1 h
    exact ⟨this.1, by simpa using this.2⟩
  match hF' : F with
  | [] =>
    have hrk : bnd rows n = 1 := by unfold bnd rk; rw [← hF]; rfl
    rw [hrk] at hbnd
    have bd : ∀ x ∈ l, ∀ j, -1 ≤ fnV x j ∧ fnV x j ≤ 1 := fun x hx j => inB_getD (hbnd x hx) j.val
    have := count_le (N := 81) (f := fun x => ((fnV x 0 + 1) * 27 + (fnV x 1 + 1) * 9 + (fnV x 2 + 1) * 3 + (fnV x 3 + 1)).toNat) hnd (fun x hx => by
      have b0 := bd x hx 0
      have b1 := bd x hx 1
      have b2 := bd x hx 2
      have b3 := bd x hx 3
      omega) fun x hx y hy e => by
      have b0 := bd x hx 0
      have b1 := bd x hx 1
      have b2 := bd x hx 2
      have b3 := bd x hx 3
      have c0 := bd y hy 0
      have c1 := bd y hy 1
      have c2 := bd y hy 2
      have c3 := bd y hy 3
      exact fn_inj (h4 x hx) (h4 y hy) (fn4 (by omega) (by omega) (by omega) (by omega))
    omega
  | [r] =>
    have hrk : bnd rows n = 2 := by unfold bnd rk; rw [← hF]; rfl
    exact one r (hFm r (by simp)).1 (hFm r (by simp)).2 hrk
  | a :: b :: t =>
    have hrows := two_rows hr.two hF.symm
    subst hrows
    cases hmin : (minors a b).all (fun d => !(d != 0)) with
    | true =>
      have hrk : bnd [a, b] n = 2 := by unfold bnd rk; rw [← hF]; simp only [hmin]; rfl
      exact one a (by simp) (hFm a (by simp)).2 hrk
    | false =>
      have hrk : bnd [a, b] n ≤ 16 := by unfold bnd; split; omega; split; omega; split <;> omega
      have := count2 (n := n) (hr.len a (by simp)) (hr.len b (by simp)) (minors_some hmin) hnd hm fun x hx => inB_mono (hbnd x hx) hrk
      omega
end Go.Abs.Sp
