/- Plain: sums of columns; Plain: what is kept of any list of moves. -/
import Derived.Test.YtipfjfmdjmaflaaMI
import Derived.Test.YtipfjfmdjmaflaaLE
import Derived.Test.YtipfjfmdjmaflaaMH
import Derived.Test.YtipfjfmdjmaflaaLZ
namespace Go.Abs.Sp
open Go.Abs.Cir Go.Proofs.Ytipfjfmdjmaflaa
theorem sum_sign {X : List Int} (hX : X.length = 4) {j : Nat} : ∀ {l : List (List Int)},(∀ y ∈ l,y.length = 4 ∧ fitR y X = true) → (0 ≤ X.getD j 0 → 0 ≤ sumC l j) ∧ (X.getD j 0 ≤ 0 → sumC l j ≤ 0)
  | [],_ => by simp [sumC]
  | y :: l,h => by
    have ih := sum_sign (j := j) hX (l := l) fun z hz => h z (by simp [hz])
    obtain ⟨h1,h2⟩ := h y (by simp)
    have h3 := (fitR_iff (by omega)).1 h2 j
    simp only [sumC,List.foldr_cons] at ih ⊢
    omega
theorem times_move {a : List (List Int)} {x : List Int} (hv : vecOk a x (-100) 100 = true) : (timesV a x).any (fun z => z != 0) = !moveB (a.map pad) (pad x) := by
  unfold vecOk at hv
  rw [Bool.and_eq_true,Bool.and_eq_true,decide_eq_true_eq] at hv
  obtain ⟨hm,xl,xn⟩ := hv
  obtain ⟨r1,-,-,n4⟩ := mat_cols hm rfl
  obtain ⟨-,-,h3⟩ := mat_spec hm
  have xb : inB 100 x := inB_numbers.2 xn
  have e : ∀ r ∈ a,dotG 0 r x = dp (pad r) (pad x) := fun r hr => by
    have hl := (h3 r hr).1
    have hrb : inB 2 r := fun z hz => r1.bnd (pad r) (List.mem_map.2 ⟨r,hr,rfl⟩) z (by unfold pad; simp [hz])
    rw [dotG_dp (A := 2) (M := 100) (by decide) (by decide) (by decide) hrb xb (by omega) (by omega) (by omega),Int.zero_add]
    rw [dp_split (a.getD 0 []).length (by rw [pad_len (by omega),pad_len (by omega)] : (pad r).length = (pad x).length),pad_take hl,pad_take xl,dp_zero (drop_zero fun j hj => pad_getD xl hj)]
    omega
  unfold timesV moveB
  rw [List.any_map,List.all_map,Bool.eq_iff_iff,List.any_eq_true,Bool.not_eq_true',List.all_eq_false]
  constructor
  · rintro ⟨r,hr,h⟩
    refine ⟨r,hr,?_⟩
    simp only [Function.comp,bne_iff_ne,ne_eq,beq_iff_eq] at h ⊢
    rwa [← e r hr]
  · rintro ⟨r,hr,h⟩
    refine ⟨r,hr,?_⟩
    simp only [Function.comp,bne_iff_ne,ne_eq,beq_iff_eq] at h ⊢
    rwa [e r hr]
end Go.Abs.Sp
namespace Go.Abs.Sp
open Go.Abs.Cir Go.Proofs.Ytipfjfmdjmaflaa
theorem mem_keepM {rows : List (List Int)} {n : Nat} {M : Int} (hr : Rows4 rows) (hpad : ∀ r ∈ rows,∀ j,n ≤ j → r.getD j 0 = 0) (hn : n ≤ 4) (hM : bnd rows n ≤ M) {l : List (List Int)} (hm : ∀ x,x ∈ l ↔ Mv rows n x ∧ inB M x) (hs : l.Pairwise (fun x y => size x ≤ size y)) {x : List Int} : x ∈ keepMin [] l ↔ Mini rows n x := by
  have h4 : ∀ x ∈ l,x.length = 4 := fun x hx => ((hm x).1 hx).1.len
  obtain ⟨l',h1,h2⟩ := keepMin_app l []
  rw [List.nil_append] at h1
  constructor
  · intro hx
    have hxl : x ∈ l := by rw [h1] at hx; exact h2.subset hx
    refine ⟨((hm x).1 hxl).1,fun y hy hf => ?_⟩
    obtain ⟨u,u1,u2,u3⟩ := small hr hpad hn hy
    have hul : u ∈ l := (hm u).2 ⟨u1,inB_mono u3 hM⟩
    have e := keepMin_min h4 hs hx hul (fitR_trans u1.len hy.len (h4 x hxl) u2 hf)
    rw [e] at u2
    exact fitR_anti hy.len (h4 x hxl) hf u2
  · intro h
    have hxl : x ∈ l := (hm x).2 ⟨h.mv,inB_mono (h.bnd hr hpad hn) hM⟩
    obtain ⟨y,hy,hf⟩ := keepMin_cov l [] x hxl
    have hyl : y ∈ l := by rw [h1] at hy; exact h2.subset hy
    rw [← h.min y ((hm y).1 hyl).1 hf]; exact hy
theorem pad_inj {n : Nat} {x y : List Int} (hx : x.length = n) (hy : y.length = n) (h : pad x = pad y) : x = y := by rw [← pad_take hx,← pad_take hy,h]
theorem pad_plus {n : Nat} {x y : List Int} (hx : x.length = n) (hy : y.length = n) : pad (plusV 1 x y) = plusV 1 (pad x) (pad y) := by
  unfold pad plusV
  rw [List.zipWith_append (by omega),List.length_zipWith,hx,hy,Nat.min_self]
  congr 1
  refine List.ext_getElem (by simp) fun i h1 h2 => by simp
theorem fitR_unpad2 {x y : List Int} (h : x.length = y.length) : fitR (pad x) (pad y) = fitR x y := by
  rw [Bool.eq_iff_iff]
  refine ⟨fun hf => ?_,fitR_pad h⟩
  rw [fitR_iff (by unfold pad; simp [h])] at hf
  rw [fitR_iff h]
  intro k
  by_cases hk : k < x.length
  · have := hf k
    have e : ∀ {z : List Int},k < z.length → (pad z).getD k 0 = z.getD k 0 := fun {z} hz => by
      unfold pad
      rw [List.getD_eq_getElem?_getD,List.getElem?_append_left hz,List.getD_eq_getElem?_getD]
    rw [e hk,e (by omega)] at this; exact this
  · rw [List.getD_eq_getElem?_getD,List.getElem?_eq_none (by omega),List.getD_eq_getElem?_getD,List.getElem?_eq_none (by omega)]; simp
theorem inB_pad {M : Int} (h0 : 0 ≤ M) {x : List Int} : inB M (pad x) ↔ inB M x := by
  unfold inB pad
  refine ⟨fun h a ha => h a (List.mem_append_left _ ha),fun h a ha => ?_⟩
  rcases List.mem_append.1 ha with ha | ha
  · exact h a ha
  · rw [List.mem_replicate] at ha; omega
end Go.Abs.Sp
