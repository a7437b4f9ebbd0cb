/- Basic moves, plain: the one answer; columns exchanged. -/
import Derived.Test.YtipfjfmdjmaflaaLY
import Derived.Test.YtipfjfmdjmaflaaMB
namespace Go.Abs.Sp
open Go.Abs.Cir Go.Proofs.Ytipfjfmdjmaflaa
/-- Basic moves by size. -/
def basB (rows : List (List Int)) (n : Nat) : List (List Int) := keepMin [] ((movesL rows n).mergeSort fun x y => decide (size x ≤ size y))
theorem basB_is (rows : List (List Int)) (n : Nat) : IsB rows n (basB rows n) := by
  refine ⟨_, List.mergeSort_perm _ _, ?_, rfl⟩
  refine (List.pairwise_mergeSort (fun a b c h1 h2 => ?_) (fun a b => ?_) _).imp fun h => by simpa using h
  · simp at h1 h2 ⊢; omega
  · simp; omega
/-- The answer of Basic, of a matrix. -/
def basL (a : List (List Int)) : List (List Int) := ansL (a.getD 0 []).length (basB (a.map pad) (a.getD 0 []).length)
theorem perm_of {α : Type} [DecidableEq α] {l l' : List α} (h1 : l.Nodup) (h2 : l'.Nodup) (h : ∀ a, a ∈ l ↔ a ∈ l') : l.Perm l' := by
  rw [List.perm_iff_count]
  intro a
  rw [h1.count, h2.count]
  simp [h a]
theorem ans_uniq {a : List (List Int)} {bs : List (List Int)} (h : mat a = true) (hB : IsB (a.map pad) (a.getD 0 []).length bs) : ansL (a.getD 0 []).length bs = basL a := by
  have hC := basB_is (a.map pad) (a.getD 0 []).length
  refine asc_unique (sortV_asc _) (sortV_asc _) ?_
  refine perm_of (ans_nodup h hB) (ans_nodup h hC) fun x => ?_
  have k1 := mem_ans (x := x) h hB
  have k2 := mem_ans (x := x) h hC
  exact k1.trans k2.symm
theorem mem_basL {a : List (List Int)} (h : mat a = true) {x : List Int} : x ∈ basL a ↔ x.length = (a.getD 0 []).length ∧ Mini (a.map pad) (a.getD 0 []).length (pad x) := mem_ans h (basB_is _ _)
/-- The answer of Pure. -/
def purL (a : List (List Int)) : List (List Int) := (basL a).filter posV
theorem posV_pad {x : List Int} : posV (pad x) = posV x := by
  unfold posV pad
  rw [List.all_append]
  have : (List.replicate (4 - x.length) (0 : Int)).all (fun a => decide (0 ≤ a)) = true := by
    rw [List.all_eq_true]; intro z hz; rw [List.eq_of_mem_replicate hz]; rfl
  rw [this, Bool.and_true]
theorem pur_uniq {a : List (List Int)} {bs : List (List Int)} (h : mat a = true) (hB : IsB (a.map pad) (a.getD 0 []).length bs) : sortV ((bs.filter posV).map fun x => x.take (a.getD 0 []).length) = purL a := by
  obtain ⟨r1, r2, -, r4⟩ := mat_cols h rfl
  have e : (bs.filter posV).map (fun x => x.take (a.getD 0 []).length) = (bs.map fun x => x.take (a.getD 0 []).length).filter posV := by
    rw [List.filter_map]
    congr 1
    refine List.filter_congr fun x hx => ?_
    have hm := (mem_bs h hB).1 hx
    show posV x = posV (x.take _)
    rw [← posV_pad (x := x.take _), take_pad r4 hm.mv.len hm.mv.pad]
  rw [e]
  refine asc_unique (sortV_asc _) ?_ ?_
  · exact (sortV_asc _).filter _
  · refine (sortV_perm _).trans ?_
    refine List.Perm.filter _ ?_
    refine perm_of ?_ (ans_nodup h (basB_is _ _)) fun x => ?_
    · have := ans_nodup h hB
      unfold ansL at this
      rwa [(sortV_perm _).nodup_iff] at this
    · have k1 := mem_ans (x := x) h hB
      have k2 := mem_ans (x := x) h (basB_is (a.map pad) (a.getD 0 []).length)
      unfold ansL at k1
      rw [(sortV_perm _).mem_iff] at k1
      exact k1.trans k2.symm
/-- Two numbers exchanged. -/
def sw (i j : Nat) (l : List Int) : List Int := (l.set i (l.getD j 0)).set j (l.getD i 0)
section
variable {i j : Nat}
theorem sw_len (l : List Int) : (sw i j l).length = l.length := by simp [sw]
theorem sw_get {l : List Int} (hi : i < l.length) (hj : j < l.length) (k : Nat) : (sw i j l).getD k 0 = if k = j then l.getD i 0 else if k = i then l.getD j 0 else l.getD k 0 := by
  unfold sw
  by_cases h1 : k = j
  · subst h1
    rw [if_pos rfl, List.getD_eq_getElem?_getD, List.getElem?_set_self (by rw [List.length_set]; exact hj)]; rfl
  · rw [if_neg h1, List.getD_eq_getElem?_getD, List.getElem?_set_ne (fun e => h1 e.symm)]
    by_cases h2 : k = i
    · subst h2
      rw [if_pos rfl, List.getElem?_set_self hi]; rfl
    · rw [if_neg h2, List.getElem?_set_ne (fun e => h2 e.symm), ← List.getD_eq_getElem?_getD]
theorem ext_getD {x y : List Int} (hl : x.length = y.length) (h : ∀ k, x.getD k 0 = y.getD k 0) : x = y := by
  refine List.ext_getElem hl fun i h1 h2 => ?_
  have := h i
  rwa [List.getD_eq_getElem?_getD, List.getD_eq_getElem?_getD, List.getElem?_eq_getElem h1, List.getElem?_eq_getElem h2] at this
theorem sw_sw {l : List Int} (hi : i < l.length) (hj : j < l.length) : sw i j (sw i j l) = l := by
  refine ext_getD (by rw [sw_len, sw_len]) fun k => ?_
  rw [sw_get (by rw [sw_len]; exact hi) (by rw [sw_len]; exact hj), sw_get hi hj, sw_get hi hj, sw_get hi hj]
  by_cases h1 : k = j
  · subst h1
    by_cases h2 : i = k
    · subst h2; simp
    · rw [if_pos rfl, if_neg h2, if_pos rfl]
  · rw [if_neg h1]
    by_cases h2 : k = i
    · subst h2; simp
    · simp [h1, h2]
theorem sw_pad {l : List Int} {n : Nat} (hl : l.length = n) (hi : i < n) (hj : j < n) : pad (sw i j l) = sw i j (pad l) := by
  unfold pad
  rw [sw_len]
  unfold sw
  have g : ∀ k, k < l.length → (l ++ List.replicate (4 - l.length) 0).getD k 0 = l.getD k 0 := fun k hk => by
    rw [List.getD_eq_getElem?_getD, List.getElem?_append_left hk, List.getD_eq_getElem?_getD]
  rw [g i (by omega), g j (by omega), List.set_append_left _ _ (by omega), List.set_append_left _ _ (by rw [List.length_set]; omega)]
theorem sw_dp {r x : List Int} (hr : r.length = 4) (hx : x.length = 4) (hi : i < 4) (hj : j < 4) : dp (sw i j r) (sw i j x) = dp r x := by
  match r, hr, x, hx with
  | [a, b, c, d], _, [e, f, g, h], _ =>
    rcases (show i = 0 ∨ i = 1 ∨ i = 2 ∨ i = 3 by omega) with rfl | rfl | rfl | rfl <;> rcases (show j = 0 ∨ j = 1 ∨ j = 2 ∨ j = 3 by omega) with rfl | rfl | rfl | rfl <;> simp [sw, dp] <;> omega
theorem sw_fit {x y : List Int} (hx : x.length = 4) (hy : y.length = 4) (hi : i < 4) (hj : j < 4) (hf : fitR x y = true) : fitR (sw i j x) (sw i j y) = true := by
  rw [fitR_iff (by omega)] at hf
  rw [fitR_iff (by rw [sw_len, sw_len]; omega)]
  intro k
  rw [sw_get (by omega) (by omega), sw_get (by omega) (by omega)]
  split
  · exact hf i
  · split
    · exact hf j
    · exact hf k
theorem sw_z4 (hi : i < 4) (hj : j < 4) : sw i j z4 = z4 := ext4 (by rw [sw_len]; rfl) rfl fun k => by
  rw [sw_get hi hj, z4_getD, z4_getD, z4_getD]; split <;> (try split) <;> rfl
theorem Mv.sw {rows : List (List Int)} {n : Nat} (hr : ∀ r ∈ rows, r.length = 4) (hn : n ≤ 4) (hi : i < n) (hj : j < n) {x : List Int} (h : Mv rows n x) : Mv (rows.map (sw i j)) n (sw i j x) := by
  refine ⟨by rw [sw_len]; exact h.len, fun k hk => ?_, fun e => h.ne ?_, ?_⟩
  · rw [sw_get (by rw [h.len]; omega) (by rw [h.len]; omega), if_neg (by omega), if_neg (by omega)]; exact h.pad k hk
  · rw [← sw_sw (i := i) (j := j) (by rw [h.len]; omega) (by rw [h.len]; omega : j < x.length), e, sw_z4 (by omega) (by omega)]
  · have hm := h.mv
    unfold moveB at hm ⊢
    rw [List.all_eq_true] at hm ⊢
    intro r hrm
    obtain ⟨s, hs, rfl⟩ := List.mem_map.1 hrm
    rw [sw_dp (hr s hs) h.len (by omega) (by omega)]
    exact hm s hs
theorem map_sw_sw {rows : List (List Int)} (hr : ∀ r ∈ rows, r.length = 4) (hi : i < 4) (hj : j < 4) : (rows.map (sw i j)).map (sw i j) = rows := by
  rw [List.map_map]
  conv => rhs; rw [← List.map_id rows]
  exact List.map_congr_left fun r hrm => sw_sw (by rw [hr r hrm]; exact hi) (by rw [hr r hrm]; exact hj)
theorem Mini.sw {rows : List (List Int)} {n : Nat} (hr : ∀ r ∈ rows, r.length = 4) (hn : n ≤ 4) (hi : i < n) (hj : j < n) {x : List Int} (h : Mini rows n x) : Mini (rows.map (sw i j)) n (sw i j x) := by
  refine ⟨h.mv.sw hr hn hi hj, fun y hy hf => ?_⟩
  have hy' := hy.sw (i := i) (j := j) (by
    intro r hrm
    obtain ⟨s, hs, rfl⟩ := List.mem_map.1 hrm
    rw [sw_len]; exact hr s hs) hn hi hj
  rw [map_sw_sw hr (by omega) (by omega)] at hy'
  have hf' := sw_fit (i := i) (j := j) hy.len (by rw [sw_len]; exact h.mv.len) (by omega) (by omega) hf
  rw [sw_sw (by rw [h.mv.len]; omega) (by rw [h.mv.len]; omega)] at hf'
  rw [← h.min _ hy' hf', sw_sw (by rw [hy.len]; omega) (by rw [hy.len]; omega)]
theorem mat_sw {a : List (List Int)} (h : mat a = true) (hi : i < (a.getD 0 []).length) (hj : j < (a.getD 0 []).length) : mat (a.map (sw i j)) = true ∧ ((a.map (sw i j)).getD 0 []).length = (a.getD 0 []).length ∧ (a.map (sw i j)).map pad = (a.map pad).map (sw i j) := by
  have hs := mat_spec h
  have h0 : ((a.map (sw i j)).getD 0 []).length = (a.getD 0 []).length := by
    rw [List.getD_eq_getElem?_getD, List.getElem?_map, List.getElem?_eq_getElem (by omega)]
    simp [sw_len, List.getD_eq_getElem?_getD, List.getElem?_eq_getElem (show 0 < a.length by omega)]
  refine ⟨?_, h0, ?_⟩
  · unfold mat at h ⊢
    simp only [Bool.and_eq_true, decide_eq_true_eq, List.all_eq_true] at h ⊢
    refine ⟨by simpa using h.1, by simpa using h.2.1, fun r hr => ?_⟩
    obtain ⟨s, hs, rfl⟩ := List.mem_map.1 hr
    obtain ⟨k1, k2, k3, k4⟩ := h.2.2 s hs
    refine ⟨by rw [sw_len, h0]; exact k1, by rw [sw_len]; exact k2, by rw [sw_len]; exact k3, ?_⟩
    unfold numbers at k4 ⊢
    rw [List.all_eq_true] at k4 ⊢
    intro z hz
    obtain ⟨k, hk, rfl⟩ := List.getElem_of_mem hz
    have e := sw_get (l := s) (i := i) (j := j) (by omega) (by omega) k
    rw [List.getD_eq_getElem?_getD, List.getElem?_eq_getElem hk, Option.getD_some] at e
    have mem : ∀ m, m < s.length → s.getD m 0 ∈ s := fun m hm => by
      rw [List.getD_eq_getElem?_getD, List.getElem?_eq_getElem hm]; exact List.getElem_mem _
    rw [sw_len] at hk
    rw [e]
    split
    · exact k4 _ (mem i (by omega))
    · split
      · exact k4 _ (mem j (by omega))
      · exact k4 _ (mem k hk)
  · rw [List.map_map, List.map_map]
    exact List.map_congr_left fun r hr => sw_pad (hs.2.2 r hr).1 hi hj
/-- **Columns exchanged, numbers exchanged.** -/
theorem bas_sw {a : List (List Int)} (h : mat a = true) (hi : i < (a.getD 0 []).length) (hj : j < (a.getD 0 []).length) : basL (a.map (sw i j)) = sortV ((basL a).map (sw i j)) := by
  obtain ⟨m1, m2, m3⟩ := mat_sw h hi hj
  obtain ⟨r1, r2, -, r4⟩ := mat_cols h rfl
  have inj : ∀ x ∈ basL a, i < x.length ∧ j < x.length := fun x hx => by
    have := ((mem_basL h).1 hx).1; omega
  refine asc_unique (sortV_asc _) (sortV_asc _) ?_
  refine perm_of (ans_nodup m1 (basB_is _ _)) ?_ (fun x => ?_) |>.trans (sortV_perm _).symm
  · refine nodup_map (ans_nodup h (basB_is _ _)) fun x hx y hy e => ?_
    rw [← sw_sw (inj x hx).1 (inj x hx).2, e, sw_sw (inj y hy).1 (inj y hy).2]
  · have k := mem_basL (x := x) m1
    rw [m2, m3] at k
    refine k.trans ?_
    rw [List.mem_map]
    constructor
    · rintro ⟨hl, hm⟩
      refine ⟨sw i j x, (mem_basL h).2 ⟨by rw [sw_len]; exact hl, ?_⟩, sw_sw (by omega) (by omega)⟩
      rw [sw_pad hl hi hj]
      have := hm.sw (i := i) (j := j) (by
        intro r hrm
        obtain ⟨s, hs, rfl⟩ := List.mem_map.1 hrm
        rw [sw_len]; exact r1.len s hs) r4 hi hj
      rwa [map_sw_sw r1.len (by omega) (by omega)] at this
    · rintro ⟨y, hy, rfl⟩
      obtain ⟨k1, k2⟩ := (mem_basL h).1 hy
      refine ⟨by rw [sw_len]; exact k1, ?_⟩
      rw [sw_pad k1 hi hj]
      exact k2.sw r1.len r4 hi hj
end
end Go.Abs.Sp
