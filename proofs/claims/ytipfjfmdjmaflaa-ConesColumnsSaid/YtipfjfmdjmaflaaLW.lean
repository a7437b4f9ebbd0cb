/- Basic moves, plain: what is kept are the moves into which no other fits. -/
import Derived.Test.YtipfjfmdjmaflaaLV
namespace Go.Abs.Sp
theorem dp_split : ∀ (i : Nat) {r y : List Int}, r.length = y.length → dp r y = dp (r.take i) (y.take i) + dp (r.drop i) (y.drop i)
  | 0, r, y, _ => by simp [dp]
  | i + 1, [], [], _ => by simp [dp]
  | i + 1, [], _ :: _, h => by simp at h
  | i + 1, _ :: _, [], h => by simp at h
  | i + 1, a :: r, b :: y, h => by
    have := dp_split i (r := r) (y := y) (by simpa using h)
    simp only [dp, List.take_succ_cons, List.drop_succ_cons]
    omega
theorem dp_zero : ∀ {r y : List Int}, (∀ a ∈ y, a = 0) → dp r y = 0
  | [], _, _ => by simp [dp]
  | _ :: _, [], _ => by simp [dp]
  | a :: r, b :: y, h => by
    simp only [dp]
    rw [h b (by simp), dp_zero fun a ha => h a (by simp [ha])]
    simp
theorem ab_mul {a b M : Int} (h : -M ≤ b ∧ b ≤ M) : -(ab a * M) ≤ a * b ∧ a * b ≤ ab a * M :=
  mul_bound (A := ab a) (by have := (ab_le (x := a)).1 (Int.le_refl _); omega) (by have := (ab_le (x := a)).1 (Int.le_refl _); omega) h.1 h.2
theorem dp_room {M : Int} (hM : 0 ≤ M) : ∀ {r y : List Int}, inB M y → -room M r ≤ dp r y ∧ dp r y ≤ room M r
  | [], y, _ => by simp [dp, room]
  | a :: r, [], _ => by
    have h1 := dp_room hM (r := r) (y := []) (by simp [inB])
    have h2 := Int.mul_nonneg (ab_nonneg a) hM
    have h0 : dp r [] = 0 := dp_zero (by simp)
    rw [h0] at h1
    have e : room M (a :: r) = ab a * M + room M r := rfl
    rw [e, show dp (a :: r) [] = 0 from rfl]
    omega
  | a :: r, b :: y, h => by
    rw [inB_cons] at h
    have h1 := dp_room hM (r := r) h.2
    have h2 := ab_mul (a := a) h.1
    simp only [dp, room, List.foldr_cons] at h1 ⊢
    omega
theorem ext4 {x y : List Int} (hx : x.length = 4) (hy : y.length = 4) (h : ∀ j, x.getD j 0 = y.getD j 0) : x = y := by
  refine List.ext_getElem (by omega) fun i h1 h2 => ?_
  have := h i
  rwa [List.getD_eq_getElem?_getD, List.getD_eq_getElem?_getD, List.getElem?_eq_getElem h1, List.getElem?_eq_getElem h2] at this
theorem take_agree {x y : List Int} (hx : x.length = 4) (hy : y.length = 4) {i m : Nat} (hm : m ≤ i) (h : ∀ j, j < i → x.getD j 0 = y.getD j 0) : x.take m = y.take m := by
  refine List.ext_getElem (by simp [hx, hy]) fun k h1 h2 => ?_
  rw [List.length_take] at h1
  have := h k (by omega)
  rw [List.getD_eq_getElem?_getD, List.getD_eq_getElem?_getD, List.getElem?_eq_getElem (by omega), List.getElem?_eq_getElem (by omega)] at this
  rw [List.getElem_take, List.getElem_take]
  exact this
theorem drop_zero {y : List Int} {n : Nat} (h : ∀ j, n ≤ j → y.getD j 0 = 0) : ∀ a ∈ y.drop n, a = 0 := by
  intro a ha
  obtain ⟨k, hk, rfl⟩ := List.getElem_of_mem ha
  have := h (n + k) (by omega)
  rw [List.length_drop] at hk
  rw [List.getD_eq_getElem?_getD, List.getElem?_eq_getElem (by omega)] at this
  rw [List.getElem_drop]
  exact this
theorem can_of {rows : List (List Int)} (hr : ∀ r ∈ rows, r.length = 4) {n i : Nat} {most : Int} (hm : 0 ≤ most) {x y : List Int} (hx : x.length = 4) (hy : y.length = 4) (hyb : inB most y) (hp : ∀ j, n ≤ j → y.getD j 0 = 0) (hmv : moveB rows y = true) (h : ∀ j, j < i → x.getD j 0 = y.getD j 0) : can rows n i most x = true := by
  unfold can
  rw [List.all_eq_true]
  intro r hrm
  unfold moveB at hmv
  rw [List.all_eq_true] at hmv
  have h0 : dp r y = 0 := by simpa using hmv r hrm
  rw [dp_split n (by rw [hr r hrm, hy]), dp_zero (drop_zero hp), dp_split i (by simp [hr r hrm, hy]), List.take_take, List.take_take] at h0
  have h1 := dp_room hm (r := (r.take n).drop i) (y := (y.take n).drop i) (fun a ha => hyb a (List.mem_of_mem_take (List.mem_of_mem_drop ha)))
  unfold canR
  rw [decide_eq_true_eq, take_agree hx hy (Nat.min_le_left i n) h, ab_le]
  omega
theorem growL_all {rows : List (List Int)} (hr : ∀ r ∈ rows, r.length = 4) {n most : Nat} {y : List Int} (hy : y.length = 4) (hyb : inB most y) (hp : ∀ j, n ≤ j → y.getD j 0 = 0) (hmv : moveB rows y = true) (hne : y ≠ z4) :
    ∀ (k i : Nat) {x : List Int}, x.length = 4 → i + k ≤ 4 → (∀ j, (j < i ∨ i + k ≤ j) → x.getD j 0 = y.getD j 0) → y ∈ growL rows n most k i x
  | 0, i, x, hx, _, h => by
    have e : x = y := ext4 hx hy fun j => h j (by omega)
    subst e
    unfold growL
    rw [if_pos (by simp [hmv, hne])]
    simp
  | k + 1, i, x, hx, hi, h => by
    unfold growL
    have hb := inB_getD hyb i (by omega)
    refine List.mem_flatMap.2 ⟨(y.getD i 0 + most).toNat, List.mem_range.2 (by omega), ?_⟩
    have e : (((y.getD i 0 + most).toNat : Nat) : Int) - most = y.getD i 0 := by omega
    rw [e]
    have ag : ∀ j, (j < i + 1 ∨ i + 1 + k ≤ j) → (x.set i (y.getD i 0)).getD j 0 = y.getD j 0 := fun j hj => by
      by_cases hji : j = i
      · subst hji
        rw [List.getD_eq_getElem?_getD, List.getElem?_set_self (by omega)]; rfl
      · rw [List.getD_eq_getElem?_getD, List.getElem?_set_ne (by omega), ← List.getD_eq_getElem?_getD]
        exact h j (by omega)
    rw [if_pos (can_of hr (by omega) (by simpa using hx) hy hyb hp hmv fun j hj => ag j (.inl hj))]
    exact growL_all hr hy hyb hp hmv hne k (i + 1) (by simpa using hx) (by omega) ag
theorem z4_getD (j : Nat) : z4.getD j 0 = 0 := by
  rcases (show j = 0 ∨ j = 1 ∨ j = 2 ∨ j = 3 ∨ 4 ≤ j by omega) with rfl | rfl | rfl | rfl | h
  · rfl
  · rfl
  · rfl
  · rfl
  · rw [List.getD_eq_getElem?_getD, List.getElem?_eq_none (by simp [z4]; omega)]; rfl
theorem mem_movesL {rows : List (List Int)} (hr : ∀ r ∈ rows, r.length = 4) {n : Nat} (hn : n ≤ 4) {x : List Int} : x ∈ movesL rows n ↔ Mv rows n x ∧ inB (mostOf rows) x := by
  constructor
  · intro h
    obtain ⟨h1, h2, h3, h4, h5⟩ := growL_mem n 0 (by rfl) (z4_in _ (by omega)) h
    exact ⟨⟨h1, fun j hj => by rw [h3 j (by omega), z4_getD], h4, h5⟩, h2⟩
  · rintro ⟨h, hb⟩
    exact growL_all hr h.len hb h.pad h.mv h.ne n 0 rfl (by omega) fun j hj => by rw [h.pad j (by omega), z4_getD]
theorem fitR_refl (x : List Int) : fitR x x = true := by
  rw [fitR_iff rfl]; intro k; omega
theorem fitR_trans {x y z : List Int} (hx : x.length = 4) (hy : y.length = 4) (hz : z.length = 4) (h1 : fitR x y = true) (h2 : fitR y z = true) : fitR x z = true := by
  rw [fitR_iff (by omega)] at *
  intro k
  have := h1 k
  have := h2 k
  omega
theorem fitR_anti {x y : List Int} (hx : x.length = 4) (hy : y.length = 4) (h1 : fitR x y = true) (h2 : fitR y x = true) : x = y := by
  rw [fitR_iff (by omega)] at h1 h2
  refine ext4 hx hy fun k => ?_
  have := h1 k
  have := h2 k
  omega
theorem fitR_size {x y : List Int} (hx : x.length = 4) (hy : y.length = 4) (h1 : fitR x y = true) (h2 : size y ≤ size x) : x = y := by
  rw [fitR_iff (by omega)] at h1
  have k : ∀ k, ab (x.getD k 0) ≤ ab (y.getD k 0) ∧ (ab (x.getD k 0) = ab (y.getD k 0) → x.getD k 0 = y.getD k 0) := fun k => by
    have := h1 k
    unfold ab
    split <;> split <;> omega
  unfold size at h2
  have k0 := k 0
  have k1 := k 1
  have k2 := k 2
  have k3 := k 3
  refine ext4 hx hy fun j => ?_
  rcases (show j = 0 ∨ j = 1 ∨ j = 2 ∨ j = 3 ∨ 4 ≤ j by omega) with rfl | rfl | rfl | rfl | h
  · exact k0.2 (by omega)
  · exact k1.2 (by omega)
  · exact k2.2 (by omega)
  · exact k3.2 (by omega)
  · rw [List.getD_eq_getElem?_getD, List.getElem?_eq_none (by omega), List.getD_eq_getElem?_getD, List.getElem?_eq_none (by omega)]
theorem keepMin_app : ∀ (l out : List (List Int)), ∃ l', keepMin out l = out ++ l' ∧ l'.Sublist l
  | [], out => ⟨[], by simp [keepMin], .slnil⟩
  | x :: l, out => by
    unfold keepMin
    split
    · obtain ⟨l', h1, h2⟩ := keepMin_app l out
      exact ⟨l', h1, h2.cons x⟩
    · obtain ⟨l', h1, h2⟩ := keepMin_app l (out ++ [x])
      exact ⟨x :: l', by rw [h1]; simp, h2.cons_cons x⟩
theorem keepMin_pair : ∀ (l out : List (List Int)), out.Pairwise (fun a b => fitR a b = false) → (keepMin out l).Pairwise (fun a b => fitR a b = false)
  | [], out, h => by simpa [keepMin] using h
  | x :: l, out, h => by
    unfold keepMin
    split
    · exact keepMin_pair l out h
    · rename_i hn
      refine keepMin_pair l _ (List.pairwise_append.2 ⟨h, by simp, fun a ha b hb => ?_⟩)
      simp at hb; subst hb
      rw [List.any_eq_true] at hn
      cases hf : fitR a b with
      | false => rfl
      | true => exact absurd ⟨a, ha, hf⟩ hn
theorem keepMin_cov : ∀ (l out : List (List Int)), ∀ x ∈ l, ∃ y ∈ keepMin out l, fitR y x = true
  | [], out, x, h => by simp at h
  | z :: l, out, x, h => by
    unfold keepMin
    rcases List.mem_cons.1 h with rfl | h
    · split
      · rename_i ha
        obtain ⟨y, hy, hf⟩ := List.any_eq_true.1 ha
        obtain ⟨l', h1, -⟩ := keepMin_app l out
        exact ⟨y, by rw [h1]; simp [hy], hf⟩
      · obtain ⟨l', h1, -⟩ := keepMin_app l (out ++ [x])
        exact ⟨x, by rw [h1]; simp, fitR_refl x⟩
    · split
      · exact keepMin_cov l _ x h
      · exact keepMin_cov l _ x h
theorem keepMin_min {l : List (List Int)} (h4 : ∀ x ∈ l, x.length = 4) (hs : l.Pairwise (fun x y => size x ≤ size y)) {y z : List Int} (hy : y ∈ keepMin [] l) (hz : z ∈ l) (hf : fitR z y = true) : z = y := by
  obtain ⟨l', h1, h2⟩ := keepMin_app l []
  rw [List.nil_append] at h1
  have hp := keepMin_pair l [] .nil
  obtain ⟨w, hw, hwz⟩ := keepMin_cov l [] z hz
  rw [h1] at hy hw hp
  have hyl := h2.subset hy
  have hwl := h2.subset hw
  have hwy := fitR_trans (h4 w hwl) (h4 z hz) (h4 y hyl) hwz hf
  have e : w = y := by
    by_cases e : w = y
    · exact e
    · refine fitR_size (h4 w hwl) (h4 y hyl) hwy ?_
      have hps := hs.sublist h2
      obtain ⟨i, hi, rfl⟩ := List.getElem_of_mem hw
      obtain ⟨j, hj, rfl⟩ := List.getElem_of_mem hy
      rcases Nat.lt_trichotomy i j with h | h | h
      · have := List.pairwise_iff_getElem.1 hp i j hi hj h
        rw [this] at hwy; cases hwy
      · subst h; exact absurd rfl e
      · exact List.pairwise_iff_getElem.1 hps j i hj hi h
  subst e
  exact fitR_anti (h4 z hz) (h4 w hwl) hf hwz
/-- A move into which no other one fits. -/
structure Mini (rows : List (List Int)) (n : Nat) (x : List Int) : Prop where
  mv : Mv rows n x
  min : ∀ y, Mv rows n y → fitR y x = true → y = x
theorem bnd_most (rows : List (List Int)) (n : Nat) : bnd rows n ≤ mostOf rows := by
  rw [mostOf_rk]; unfold bnd
  split
  · omega
  · split
    · omega
    · split <;> omega
theorem Mini.bnd {rows : List (List Int)} {n : Nat} (hr : Rows4 rows) (hpad : ∀ r ∈ rows, ∀ j, n ≤ j → r.getD j 0 = 0) (hn : n ≤ 4) {x : List Int} (h : Mini rows n x) : inB (bnd rows n) x := by
  obtain ⟨u, h1, h2, h3⟩ := small hr hpad hn h.mv
  rw [← h.min u h1 h2]; exact h3
theorem mem_keep {rows : List (List Int)} {n : Nat} (hr : Rows4 rows) (hpad : ∀ r ∈ rows, ∀ j, n ≤ j → r.getD j 0 = 0) (hn : n ≤ 4) {l : List (List Int)} (hp : l.Perm (movesL rows n)) (hs : l.Pairwise (fun x y => size x ≤ size y)) {x : List Int} : x ∈ keepMin [] l ↔ Mini rows n x := by
  have hm : ∀ {x}, x ∈ l ↔ Mv rows n x ∧ inB (mostOf rows) x := fun {x} => by rw [hp.mem_iff]; exact mem_movesL hr.len hn
  have h4 : ∀ x ∈ l, x.length = 4 := fun x hx => (hm.1 hx).1.len
  obtain ⟨l', h1, h2⟩ := keepMin_app l []
  rw [List.nil_append] at h1
  constructor
  · intro hx
    have hxl : x ∈ l := by rw [h1] at hx; exact h2.subset hx
    refine ⟨(hm.1 hxl).1, fun y hy hf => ?_⟩
    obtain ⟨u, u1, u2, u3⟩ := small hr hpad hn hy
    have hul : u ∈ l := hm.2 ⟨u1, inB_mono u3 (bnd_most rows n)⟩
    have e := keepMin_min h4 hs hx hul (fitR_trans u1.len hy.len (h4 x hxl) u2 hf)
    rw [e] at u2
    exact fitR_anti hy.len (h4 x hxl) hf u2
  · intro h
    have hxl : x ∈ l := hm.2 ⟨h.mv, inB_mono (h.bnd hr hpad hn) (bnd_most rows n)⟩
    obtain ⟨y, hy, hf⟩ := keepMin_cov l [] x hxl
    have hyl : y ∈ l := by rw [h1] at hy; exact h2.subset hy
    rw [← h.min y (hm.1 hyl).1 hf]; exact hy
theorem keep_nodup (l : List (List Int)) : (keepMin [] l).Nodup := by
  have := keepMin_pair l [] .nil
  refine this.imp fun {a b} h e => ?_
  subst e
  rw [fitR_refl] at h; cases h
end Go.Abs.Sp
