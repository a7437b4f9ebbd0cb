/- Plain: keeping one after the other,in a sorted list; Contracts: the reference's Basic,its second part; Plain: all vectors in the order of an odometer; what is kept of them by size. -/
import Derived.Test.YtipfjfmdjmaflaaM1
import Derived.Test.YtipfjfmdjmaflaaMP
namespace Go.Abs.Sp
open Go.Abs.Cir Go.Proofs.Ytipfjfmdjmaflaa
theorem keepMin_snoc (x : List Int) : ∀ (l out : List (List Int)),keepMin out (l ++ [x]) = if (keepMin out l).any (fun y => fitR y x) then keepMin out l else keepMin out l ++ [x]
  | [],out => by
    rw [List.nil_append]
    conv => lhs; unfold keepMin
    simp only [keepMin]
    rfl
  | y :: l,out => by
    rw [List.cons_append]
    unfold keepMin
    split
    · exact keepMin_snoc x l out
    · exact keepMin_snoc x l (out ++ [y])
structure Kept (n : Nat) (done o : List (List Int)) : Prop where
  asc : o.Pairwise fun a b => cmpL a b < 0
  len : ∀ y ∈ o,y.length = n
  mem : ∀ y,y.length = n → (y ∈ o ↔ pad y ∈ keepMin [] (done.map pad))
theorem Kept.nil (n : Nat) : Kept n [] [] := ⟨.nil,by simp,fun y _ => by simp [keepMin]⟩
theorem kept_any {n : Nat} {done o : List (List Int)} (h : Kept n done o) (hd : ∀ y ∈ done,y.length = n) {m : List Int} (hm : m.length = n) : (keepMin [] (done.map pad)).any (fun y => fitR y (pad m)) = o.any (fun y => fitR y m) := by
  rw [Bool.eq_iff_iff,List.any_eq_true,List.any_eq_true]
  constructor
  · rintro ⟨y,hy,hf⟩
    obtain ⟨l',h1,h2⟩ := keepMin_app (done.map pad) []
    have hyd : y ∈ done.map pad := by rw [h1,List.nil_append] at hy; exact h2.subset hy
    obtain ⟨z,hz,rfl⟩ := List.mem_map.1 hyd
    have zl := hd z hz
    exact ⟨z,(h.mem z zl).2 hy,by rwa [fitR_unpad2 (by omega)] at hf⟩
  · rintro ⟨y,hy,hf⟩
    have yl := h.len y hy
    exact ⟨pad y,(h.mem y yl).1 hy,by rwa [fitR_unpad2 (by omega)]⟩
theorem Kept.skip {n : Nat} {done o : List (List Int)} (h : Kept n done o) (hd : ∀ y ∈ done,y.length = n) {m : List Int} (hm : m.length = n) (ha : o.any (fun y => fitR y m) = true) : Kept n (done ++ [m]) o :=
  ⟨h.asc,h.len,fun y hy => by
    rw [List.map_append,List.map_cons,List.map_nil,keepMin_snoc,kept_any h hd hm,ha,if_pos rfl]
    exact h.mem y hy⟩
theorem Kept.add {n : Nat} {done o o' : List (List Int)} (h : Kept n done o) (hd : ∀ y ∈ done,y.length = n) {m : List Int} (hm : m.length = n) (ha : o.any (fun y => fitR y m) = false) (hs : o'.Pairwise fun a b => cmpL a b < 0) (hmem : ∀ y,y ∈ o' ↔ y ∈ o ∨ y = m) : Kept n (done ++ [m]) o' :=
  ⟨hs,fun y hy => by
    rcases (hmem y).1 hy with h1 | h1
    · exact h.len y h1
    · rw [h1]; exact hm,fun y hy => by
    rw [List.map_append,List.map_cons,List.map_nil,keepMin_snoc,kept_any h hd hm,ha,if_neg (by decide),List.mem_append,hmem,h.mem y hy,List.mem_singleton]
    constructor
    · rintro (h1 | h1)
      · exact .inl h1
      · exact .inr (by rw [h1])
    · rintro (h1 | h1)
      · exact .inl h1
      · exact .inr (pad_inj hy hm h1)⟩
theorem Kept.done {a : List (List Int)} {M : Int} {done o : List (List Int)} (hm : mat a = true) (h : Kept (a.getD 0 []).length done o) (hM : bnd (a.map pad) (a.getD 0 []).length ≤ M)
    (hd : ∀ x,x ∈ done.map pad ↔ Mv (a.map pad) (a.getD 0 []).length x ∧ inB M x) (hs : (done.map pad).Pairwise (fun x y => size x ≤ size y)) : o = basL a := by
  obtain ⟨r1,r2,-,n4⟩ := mat_cols hm rfl
  have hk := fun x => mem_keepM (x := x) r1 r2 n4 hM hd hs
  have ond : o.Nodup := h.asc.imp fun {a b} hab e => by subst e; rw [cmpL_self] at hab; omega
  refine asc_unique (h.asc.imp fun hab => by omega) (sortV_asc _) (perm_of ond (ans_nodup hm (basB_is _ _)) fun y => ?_)
  have kb := mem_basL (x := y) hm
  constructor
  · intro hy
    have yl := h.len y hy
    exact kb.2 ⟨yl,(hk _).1 ((h.mem y yl).1 hy)⟩
  · intro hy
    obtain ⟨yl,hM'⟩ := kb.1 hy
    exact (h.mem y yl).2 ((hk _).2 hM')
end Go.Abs.Sp
namespace Go.Proofs.Ytipfjfmdjmaflaa
open Go.Abs AVal
set_option linter.unusedSimpArgs false
def okL (o : List (List Int)) (m : List Int) : Bool := !o.any fun y => Sp.fitR y m
theorem okL_snoc (o : List (List Int)) (y m : List Int) : okL (o ++ [y]) m = (okL o m && !Sp.fitR y m) := by
  unfold okL; simp [Bool.not_or]
end Go.Proofs.Ytipfjfmdjmaflaa
namespace Go.Abs.Sp
open Go.Abs.Cir Go.Proofs.Ytipfjfmdjmaflaa
def odo (M : Nat) (v : List Int) : Int := v.foldl (fun r d => r * (2 * M + 1) + (d + M)) 0
theorem odo_snoc (M : Nat) (v : List Int) (d : Int) : odo M (v ++ [d]) = odo M v * (2 * M + 1) + (d + M) := by simp [odo,List.foldl_append]
theorem odo_top (M : Nat) (q : List Int) : ∀ c : Nat,odo M (q ++ List.replicate c (M : Int)) + 1 = (odo M q + 1) * (2 * M + 1) ^ c
  | 0 => by simp
  | c + 1 => by
    have h := odo_top M q c
    rw [List.replicate_succ',← List.append_assoc,odo_snoc,Int.pow_succ,← Int.mul_assoc,← h]
    grind
theorem odo_bot (M : Nat) (q : List Int) : ∀ c : Nat,odo M (q ++ List.replicate c (-(M : Int))) = odo M q * (2 * M + 1) ^ c
  | 0 => by simp
  | c + 1 => by
    have h := odo_bot M q c
    rw [List.replicate_succ',← List.append_assoc,odo_snoc,Int.pow_succ,← Int.mul_assoc,← h]
    grind
theorem odo_next (M : Nat) (q : List Int) (e : Int) (c : Nat) : odo M (q ++ [e + 1] ++ List.replicate c (-(M : Int))) = odo M (q ++ [e] ++ List.replicate c (M : Int)) + 1 := by
  rw [odo_bot,odo_top,odo_snoc,odo_snoc]
  congr 1
  grind
theorem inB_snoc {M : Int} {v : List Int} {d : Int} : inB M (v ++ [d]) ↔ inB M v ∧ -M ≤ d ∧ d ≤ M := by
  unfold inB
  simp only [List.mem_append,List.mem_singleton]
  exact ⟨fun h => ⟨fun a ha => h a (.inl ha),h d (.inr rfl)⟩,fun h a ha => ha.elim (h.1 a) fun e => e ▸ h.2⟩
theorem snoc_of {n : Nat} {v : List Int} (h : v.length = n + 1) : ∃ w d,v = w ++ [d] ∧ w.length = n := by
  have hne : v ≠ [] := by intro e; subst e; simp at h
  refine ⟨v.dropLast,v.getLast hne,(List.dropLast_concat_getLast hne).symm,by simp [h]⟩
theorem odo_lt (M : Nat) : ∀ (n : Nat) {v : List Int},v.length = n → inB M v → 0 ≤ odo M v ∧ odo M v < (2 * M + 1) ^ n
  | 0,v,h,_ => by
    rw [List.length_eq_zero_iff] at h; subst h; simp [odo]
  | n + 1,v,h,hb => by
    obtain ⟨w,d,rfl,hw⟩ := snoc_of h
    obtain ⟨h1,h2,h3⟩ := inB_snoc.1 hb
    obtain ⟨k1,k2⟩ := odo_lt M n hw h1
    rw [odo_snoc,Int.pow_succ]
    have k3 : 0 ≤ odo M w * (2 * M + 1) := Int.mul_nonneg k1 (by omega)
    have k4 : (odo M w + 1) * (2 * M + 1) ≤ (2 * (M : Int) + 1) ^ n * (2 * M + 1) := Int.mul_le_mul_of_nonneg_right (by omega) (by omega)
    rw [Int.add_mul,Int.one_mul] at k4
    omega
theorem odo_inj (M : Nat) : ∀ (n : Nat) {v w : List Int},v.length = n → w.length = n → inB M v → inB M w → odo M v = odo M w → v = w
  | 0,v,w,h,h',_,_,_ => by
    rw [List.length_eq_zero_iff] at h h'; rw [h,h']
  | n + 1,v,w,h,h',hb,hb',he => by
    obtain ⟨v,d,rfl,hv⟩ := snoc_of h
    obtain ⟨w,e,rfl,hw⟩ := snoc_of h'
    obtain ⟨h1,h2,h3⟩ := inB_snoc.1 hb
    obtain ⟨k1,k2,k3⟩ := inB_snoc.1 hb'
    rw [odo_snoc,odo_snoc] at he
    have e1 : odo M v = odo M w := by
      rcases Int.lt_trichotomy (odo M v) (odo M w) with hl | hl | hl
      · have := Int.mul_le_mul_of_nonneg_right (show odo M v + 1 ≤ odo M w by omega) (show (0 : Int) ≤ 2 * M + 1 by omega)
        rw [Int.add_mul,Int.one_mul] at this
        omega
      · exact hl
      · have := Int.mul_le_mul_of_nonneg_right (show odo M w + 1 ≤ odo M v by omega) (show (0 : Int) ≤ 2 * M + 1 by omega)
        rw [Int.add_mul,Int.one_mul] at this
        omega
    rw [e1] at he
    have e2 : d = e := by omega
    rw [odo_inj M n hv hw h1 k1 e1,e2]
theorem odo_first (M : Nat) (n : Nat) : odo M (List.replicate n (-(M : Int))) = 0 := by
  have := odo_bot M [] n
  simp at this
  rw [this]; simp [odo]
theorem odo_last (M : Nat) (n : Nat) : odo M (List.replicate n (M : Int)) + 1 = (2 * M + 1) ^ n := by
  have := odo_top M [] n
  simp at this
  rw [this]; simp [odo]
def Buck (mv : List Int → Bool) (M n : Nat) (r : Int) (k : Nat) (b : List (List Int)) : Prop :=
  b.length ≤ r ∧ ∀ y,y ∈ b ↔ y.length = n ∧ inB M y ∧ mv y = true ∧ absSum y = k ∧ odo M y < r
theorem Buck.len {mv : List Int → Bool} {M n : Nat} {r : Int} {k : Nat} {b : List (List Int)} (h : Buck mv M n r k b) : ∀ y ∈ b,y.length = n := fun y hy => ((h.2 y).1 hy).1
theorem Buck.nil {mv : List Int → Bool} {M n : Nat} {k : Nat} : Buck mv M n 0 k [] := ⟨by simp,fun y => ⟨fun h => (by cases h),fun ⟨h1,h2,_,_,h5⟩ => by have := (odo_lt M n h1 h2).1; omega⟩⟩
theorem Buck.skip {mv : List Int → Bool} {M n : Nat} {r : Int} {k : Nat} {b : List (List Int)} {x : List Int} (h : Buck mv M n r k b) (hr : odo M x = r) (hx : x.length = n) (hb : inB M x) (hm : mv x = false ∨ absSum x ≠ k) : Buck mv M n (r + 1) k b :=
  ⟨by have := h.1; omega,fun y => by
    rw [h.2]
    refine ⟨fun ⟨h1,h2,h3,h4,h5⟩ => ⟨h1,h2,h3,h4,by omega⟩,fun ⟨h1,h2,h3,h4,h5⟩ => ⟨h1,h2,h3,h4,?_⟩⟩
    by_cases he : odo M y = r
    · have := odo_inj M n h1 hx h2 hb (by omega)
      subst this
      rcases hm with hm | hm
      · rw [hm] at h3; cases h3
      · exact absurd h4 hm
    · omega⟩
theorem Buck.add {mv : List Int → Bool} {M n : Nat} {r : Int} {k : Nat} {b : List (List Int)} {x : List Int} (h : Buck mv M n r k b) (hr : odo M x = r) (hx : x.length = n) (hb : inB M x) (hm : mv x = true) (hk : absSum x = k) : Buck mv M n (r + 1) k (b ++ [x]) :=
  ⟨by have := h.1; rw [List.length_append,List.length_singleton]; omega,fun y => by
    rw [List.mem_append,List.mem_singleton,h.2]
    constructor
    · rintro (⟨h1,h2,h3,h4,h5⟩ | rfl)
      · exact ⟨h1,h2,h3,h4,by omega⟩
      · exact ⟨hx,hb,hm,hk,by omega⟩
    · rintro ⟨h1,h2,h3,h4,h5⟩
      by_cases he : odo M y = r
      · exact .inr (odo_inj M n h1 hx h2 hb (by omega))
      · exact .inl ⟨h1,h2,h3,h4,by omega⟩⟩
theorem ab_eq0 {a : Int} : ab a = 0 ↔ a = 0 := by unfold ab; split <;> omega
theorem absSum_z : ∀ {x : List Int},absSum x = 0 ↔ ∀ a ∈ x,a = 0
  | [] => by simp [absSum]
  | a :: x => by
    have h := absSum_z (x := x)
    have := absSum_nn x
    have := ab_nonneg a
    rw [List.forall_mem_cons,← h]
    have e : absSum (a :: x) = ab a + absSum x := rfl
    have h0 := ab_eq0 (a := a)
    rw [e]
    omega
theorem size_pad {x : List Int} (h : x.length ≤ 4) : size (pad x) = absSum x := by
  rcases x with _ | ⟨a,_ | ⟨b,_ | ⟨c,_ | ⟨d,_ | ⟨e,x⟩⟩⟩⟩⟩
  · rfl
  all_goals first | (simp [size,pad,absSum,ab]; done) | (simp [size,pad,absSum,ab]; omega) | (simp at h)
theorem dot_move {a : List (List Int)} {x : List Int} (h : mat a = true) (hx : x.length = (a.getD 0 []).length) (hb : inB 16 x) : (a.all fun r => dotG 0 r x == 0) = moveB (a.map pad) (pad x) := by
  have hv : vecOk a x (-100) 100 = true := by
    unfold vecOk
    rw [Bool.and_eq_true,Bool.and_eq_true,decide_eq_true_eq]
    exact ⟨h,hx,inB_numbers.1 (inB_mono hb (by decide))⟩
  have e := times_move hv
  rw [Bool.eq_iff_iff] at e ⊢
  simp only [timesV,List.any_map,List.any_eq_true,Function.comp,bne_iff_ne,ne_eq,Bool.not_eq_true',List.all_eq_true,beq_iff_eq] at e ⊢
  constructor
  · intro h1
    cases hm : moveB (a.map pad) (pad x) with
    | true => rfl
    | false => obtain ⟨r,hr,hne⟩ := e.2 hm; exact absurd (h1 r hr) hne
  · intro h1 r hr
    cases Decidable.em (dotG 0 r x = 0) with
    | inl h2 => exact h2
    | inr h2 => have := e.1 ⟨r,hr,h2⟩; rw [h1] at this; cases this
def catB (bk : Nat → List (List Int)) (i : Nat) : List (List Int) := ((List.range i).map fun k => bk (k + 1)).flatten
theorem catB_succ (bk : Nat → List (List Int)) (i : Nat) : catB bk (i + 1) = catB bk i ++ bk (i + 1) := by
  unfold catB; rw [List.range_succ,List.map_append,List.flatten_append]; simp
theorem mem_catB {bk : Nat → List (List Int)} {i : Nat} {y : List Int} : y ∈ catB bk i ↔ ∃ k,k < i ∧ y ∈ bk (k + 1) := by
  unfold catB
  rw [List.mem_flatten]
  constructor
  · rintro ⟨l,hl,hy⟩
    obtain ⟨k,hk,rfl⟩ := List.mem_map.1 hl
    exact ⟨k,List.mem_range.1 hk,hy⟩
  · rintro ⟨k,hk,hy⟩
    exact ⟨_,List.mem_map.2 ⟨k,List.mem_range.2 hk,rfl⟩,hy⟩
theorem catB_pre (bk : Nat → List (List Int)) {i : Nat} : ∀ {N : Nat},i ≤ N → ∃ t,catB bk N = catB bk i ++ t
  | 0,h => ⟨[],by rw [show i = 0 by omega]; simp⟩
  | N + 1,h => by
    by_cases e : i = N + 1
    · exact ⟨[],by rw [e]; simp⟩
    · obtain ⟨t,ht⟩ := catB_pre bk (i := i) (N := N) (by omega)
      exact ⟨t ++ bk (N + 1),by rw [catB_succ,ht,List.append_assoc]⟩
theorem size_z4 : size z4 = 0 := rfl
theorem pow_le (n M : Nat) (hn : n ≤ 4) (hM : M ≤ 16) : (2 * (M : Int) + 1) ^ n ≤ 1185921 := by
  have : ∀ n < 5,∀ M < 17,(2 * ((M : Nat) : Int) + 1) ^ n ≤ 1185921 := by decide
  exact this n (by omega) M (by omega)
theorem keepMin_cons (out : List (List Int)) (x : List Int) (l : List (List Int)) : keepMin out (x :: l) = if out.any (fun y => fitR y x) then keepMin out l else keepMin (out ++ [x]) l := rfl
theorem keepMin_cat : ∀ (l t out : List (List Int)),keepMin out (l ++ t) = keepMin (keepMin out l) t
  | [],t,out => rfl
  | x :: l,t,out => by
    rw [List.cons_append,keepMin_cons,keepMin_cons out x l]
    split
    · exact keepMin_cat l t out
    · exact keepMin_cat l t (out ++ [x])
section
variable {a : List (List Int)} {M : Nat} {bk : Nat → List (List Int)}
theorem mem_all (h : mat a = true) (h16 : M ≤ 16) (hB : ∀ k,k < 4 * M + 1 → Buck (fun x => a.all fun r => dotG 0 r x == 0) M (a.getD 0 []).length ((2 * M + 1) ^ (a.getD 0 []).length) k (bk k)) {x : List Int} : x ∈ (catB bk (4 * M)).map pad ↔ Mv (a.map pad) (a.getD 0 []).length x ∧ inB M x := by
  obtain ⟨r1,r2,n1,n4⟩ := mat_cols h rfl
  rw [List.mem_map]
  constructor
  · rintro ⟨y,hy,rfl⟩
    obtain ⟨k,hk,hy⟩ := mem_catB.1 hy
    obtain ⟨h1,h2,h3,h4,-⟩ := ((hB (k + 1) (by omega)).2 y).1 hy
    refine ⟨⟨pad_len (by omega),fun j hj => pad_getD h1 hj,fun e => ?_,?_⟩,(inB_pad (by omega)).2 h2⟩
    · have := size_pad (x := y) (by omega)
      rw [e,size_z4,h4] at this
      omega
    · rw [← dot_move h h1 (inB_mono h2 (by omega))]; exact h3
  · rintro ⟨hm,hb⟩
    have e := take_pad n4 hm.len hm.pad
    have yl : (x.take (a.getD 0 []).length).length = (a.getD 0 []).length := by rw [List.length_take,hm.len]; omega
    have yb : inB M (x.take (a.getD 0 []).length) := (inB_pad (by omega)).1 (by rw [e]; exact hb)
    have s1 := absSum_nn (x.take (a.getD 0 []).length)
    have s2 := absSum_le yb
    rw [yl] at s2
    have s3 : (M : Int) * ((a.getD 0 []).length : Nat) ≤ 4 * M := by
      have := Int.mul_le_mul_of_nonneg_left (show ((a.getD 0 []).length : Int) ≤ 4 by omega) (show (0 : Int) ≤ M by omega)
      omega
    have s4 : absSum (x.take (a.getD 0 []).length) ≠ 0 := fun e0 => hm.ne (by
      rw [← e]
      have hz := absSum_z.1 e0
      have : x.take (a.getD 0 []).length = List.replicate (a.getD 0 []).length 0 := List.eq_replicate_iff.2 ⟨yl,hz⟩
      rw [this]; unfold pad z4
      rw [List.length_replicate,List.replicate_append_replicate,show (a.getD 0 []).length + (4 - (a.getD 0 []).length) = 4 by omega]
      try rfl)
    obtain ⟨k,hk⟩ : ∃ k : Nat,absSum (x.take (a.getD 0 []).length) = ((k + 1 : Nat) : Int) := ⟨(absSum (x.take (a.getD 0 []).length) - 1).toNat,by omega⟩
    refine ⟨x.take (a.getD 0 []).length,mem_catB.2 ⟨k,by omega,((hB (k + 1) (by omega)).2 _).2 ⟨yl,yb,?_,hk,(odo_lt M _ yl yb).2⟩⟩,e⟩
    show (a.all fun r => dotG 0 r _ == 0) = true
    rw [dot_move h yl (inB_mono yb (by omega)),e]; exact hm.mv
theorem all_size (h : mat a = true) (hB : ∀ k,k < 4 * M + 1 → Buck (fun x => a.all fun r => dotG 0 r x == 0) M (a.getD 0 []).length ((2 * M + 1) ^ (a.getD 0 []).length) k (bk k)) : ((catB bk (4 * M)).map pad).Pairwise fun x y => size x ≤ size y := by
  obtain ⟨-,-,n1,n4⟩ := mat_cols h rfl
  have hs : ∀ k,k < 4 * M → ∀ y ∈ bk (k + 1),size (pad y) = ((k + 1 : Nat) : Int) := fun k hk y hy => by
    obtain ⟨h1,h2,h3,h4,-⟩ := ((hB (k + 1) (by omega)).2 y).1 hy
    rw [size_pad (by omega),h4]
  rw [List.pairwise_map]
  unfold catB
  rw [List.pairwise_flatten]
  refine ⟨fun l hl => ?_,?_⟩
  · obtain ⟨k,hk,rfl⟩ := List.mem_map.1 hl
    refine List.pairwise_iff_getElem.2 fun i j hi hj _ => ?_
    rw [hs k (List.mem_range.1 hk) _ (List.getElem_mem _),hs k (List.mem_range.1 hk) _ (List.getElem_mem _)]
    exact Int.le_refl _
  · rw [List.pairwise_map]
    refine List.Pairwise.imp_of_mem (fun {i j} hi hj hij => ?_) List.pairwise_lt_range
    intro x hx y hy
    rw [hs i (List.mem_range.1 hi) x hx,hs j (List.mem_range.1 hj) y hy]
    omega
theorem mem_len (h : mat a = true) (hB : ∀ k,k < 4 * M + 1 → Buck (fun x => a.all fun r => dotG 0 r x == 0) M (a.getD 0 []).length ((2 * M + 1) ^ (a.getD 0 []).length) k (bk k)) {y : List Int} (hy : y ∈ catB bk (4 * M)) : y.length = (a.getD 0 []).length := by
  obtain ⟨k,hk,hy⟩ := mem_catB.1 hy
  exact (((hB (k + 1) (by omega)).2 y).1 hy).1
theorem kept_few (h : mat a = true) (h16 : M ≤ 16) (hM : bnd (a.map pad) (a.getD 0 []).length ≤ M) (hB : ∀ k,k < 4 * M + 1 → Buck (fun x => a.all fun r => dotG 0 r x == 0) M (a.getD 0 []).length ((2 * M + 1) ^ (a.getD 0 []).length) k (bk k)) {l t o : List (List Int)} (hl : catB bk (4 * M) = l ++ t) (hk : Kept (a.getD 0 []).length l o) : o.length ≤ 400 := by
  obtain ⟨r1,r2,-,n4⟩ := mat_cols h rfl
  have hmem := fun x => mem_all (x := x) h h16 hB
  have hks := fun x => mem_keepM (x := x) r1 r2 n4 hM hmem (all_size h hB)
  have nd : o.Nodup := hk.asc.imp fun {a b} hab e => by subst e; rw [cmpL_self] at hab; omega
  have hp : ∀ x ∈ o,∀ y ∈ o,pad x = pad y → x = y := fun x hx y hy e => pad_inj (hk.len x hx) (hk.len y hy) e
  have := mini_len r1 r2 n4 (nodup_map nd hp) fun x hx => by
    obtain ⟨y,hy,rfl⟩ := List.mem_map.1 hx
    refine (hks _).1 ?_
    have h1 := (hk.mem y (hk.len y hy)).1 hy
    rw [hl,List.map_append,keepMin_cat]
    obtain ⟨l',e,-⟩ := keepMin_app (t.map pad) (keepMin [] (l.map pad))
    rw [e]; exact List.mem_append_left _ h1
  rwa [List.length_map] at this
end
end Go.Abs.Sp
