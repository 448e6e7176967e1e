import Derived.Test.YtlhcaangdenoaaaSQO
import Derived.Test.YtlhcaangdenoaaaSQD
import Derived.Test.YtlhcaangdenoaaaSFnJuntolaw05
namespace Go.Lf
end Go.Lf
namespace Go.Proofs.Ytlhcaangdenoaaa.Sh
end Go.Proofs.Ytlhcaangdenoaaa.Sh
namespace Go.Proofs.Ytlhcaangdenoaaa.Sp
end Go.Proofs.Ytlhcaangdenoaaa.Sp
namespace Go.Sx
end Go.Sx
set_option linter.unusedVariables false
set_option linter.unusedSimpArgs false
namespace Go.Proofs.Ytlhcaangdenoaaa.Pl
open Go.Sx Go.Lf Go.Proofs.Ytlhcaangdenoaaa.Sh Go.Proofs.Ytlhcaangdenoaaa.Sp
theorem offL_step (p : Nat) (f : List Nat) (l : List TPoint) (i : Nat) : (List.range (i + 1)).filter (offB p f l) = (List.range i).filter (offB p f l) ++ (if offB p f l i then [i] else []) := by
  rw [List.range_succ, List.filter_append]
  congr 1
  rw [List.filter_cons]
  split <;> rfl
theorem ints_snoc (l : List Nat) (i : Nat) : ints (l ++ [i]) = ints l ++ [(i : Int)] := by simp [ints]
theorem rng_len (c : Nat → Bool) (i : Nat) : ((List.range i).filter c).length ≤ i := by
  have := List.length_filter_le c (List.range i); simpa using this
theorem below_of' {p : Nat} {f : List Nat} (h : ∀ a ∈ f, a < p) : below p f = true := below_of h
theorem off_loop {p : Nat} {f : List Nat} {l : List TPoint} (hl : l.length ≤ 100000) {step : List Int × Int → (List Int × Int → Prop) → Prop}
    (hs : ∀ (i : Nat) (q : TPoint) (t : List Int) (next : List Int × Int → Prop), i < l.length → l[i]? = some q → t.length ≤ 100000 → (evalH p f q.X ≠ q.Y → next (t ++ [(i : Int)], IntKind.i64.wrap ((i : Int) + 1))) → (evalH p f q.X = q.Y → next (t, IntKind.i64.wrap ((i : Int) + 1))) → step (t, (i : Int)) next)
    (he : ∀ next, step (ints (offL p f l), (l.length : Int)) next) : LoopQ (([] : List Int), (0 : Int)) step := by
  refine LoopQ.upto l.length (fun i t => t = (ints ((List.range i).filter (offB p f l)), (i : Int))) rfl ?_
  rintro i _ next hi rfl hnx
  by_cases h : i < l.length
  · obtain ⟨q, hq⟩ := get_some h
    have hb : offB p f l i = decide (evalH p f q.X ≠ q.Y) := by unfold offB; rw [px_get hq, py_get hq]
    refine hs i q _ next h hq (by rw [ints_len]; have := rng_len (offB p f l) i; omega) (fun hne => hnx h _ ?_) (fun heq => hnx h _ ?_)
    · rw [offL_step, hb, if_pos (decide_eq_true hne), ints_snoc, wsucc (by omega)]
    · rw [offL_step, hb, if_neg (by simp [heq]), List.append_nil, wsucc (by omega)]
  · obtain rfl : i = l.length := by omega
    exact he next
theorem decode_off_c {p : Nat} {f : List Nat} {l : List TPoint} (hp0 : 0 < p) (hp : p ≤ 65537) (hf : ∀ a ∈ f, a < p) (hl : ∀ q ∈ l, q.X < p) (hll : l.length ≤ 100000) {K : List Int → Prop} (k : K (ints (offL p f l))) : decode_off.C p f l K := by
  apply decode_off.q
  refine off_loop (p := p) (f := f) hll ?_ ?_
  · intro i q t next hi hq ht h1 h2
    refine ctd (by omega) ⟨by omega, q, hq, poly_At_c hp0 hp (hl q (mem_get hq)) (below_of' hf) ?_⟩
    by_cases h : evalH p f q.X = q.Y
    · exact cf (bne_f (by omega)) (h2 h)
    · exact ct (bne_t (by omega)) ⟨AppOk.of (by simp; omega), h1 h⟩
  · intro next
    exact cfd (by dsimp only; omega) k
theorem juntoref05_Off_c {p : Nat} {f : List Nat} {l : List TPoint} (hp0 : 1 < p) (hp : p ≤ 65537) (hf : ∀ a ∈ f, a < p) (hfl : f.length ≤ 17592186044416) (hl : ∀ q ∈ l, q.X < p) (hll : l.length ≤ 100000) {K : List Int → Prop} (k : K (ints (offL p f l))) : juntoref05_Off.C p f l K := by
  apply juntoref05_Off.q
  refine off_loop (p := p) (f := f) hll ?_ ?_
  · intro i q t next hi hq ht h1 h2
    refine ctd (by omega) ⟨by omega, q, hq, juntoref02_Eval_c hp0 hp (hl q (mem_get hq)) hf (by omega) ?_⟩
    by_cases h : evalH p f q.X = q.Y
    · exact cf (bne_f (by omega)) (h2 h)
    · exact ct (bne_t (by omega)) ⟨AppOk.of (by simp; omega), h1 h⟩
  · intro next
    exact cfd (by dsimp only; omega) k
theorem fpow_zero {p : Nat} (hp : 1 < p) (x : Nat) : fpow p x 0 = 1 := by unfold fpow; rw [Nat.pow_zero, Nat.mod_eq_of_lt hp]
theorem fpow_succ (p x k : Nat) : fmul p (fpow p x k) x = fpow p x (k + 1) := by unfold fmul fpow; rw [Nat.mod_mul_mod, ← Nat.pow_succ]
theorem fmul_one {p y : Nat} (hy : y < p) : fmul p y 1 = y := by unfold fmul; rw [Nat.mul_one, Nat.mod_eq_of_lt hy]
theorem fmul_assoc (p a b c : Nat) : fmul p (fmul p a b) c = fmul p a (fmul p b c) := by unfold fmul; rw [Nat.mod_mul_mod, Nat.mul_mod_mod, Nat.mul_assoc]
theorem rowA_lo {p D : Nat} {l : List TPoint} {i k : Nat} (h : k < D) : rowA p D l i k = fpow p (px l i) k := by unfold rowA; rw [if_pos h]
theorem rowA_hi {p D : Nat} {l : List TPoint} {i k : Nat} : rowA p D l i (D + k) = fsub p 0 (fmul p (py l i) (fpow p (px l i) k)) := by unfold rowA; rw [if_neg (by omega), show D + k - D = k by omega]
theorem dw1 {d w : Nat} (h : d + w < 100000) : IntKind.i64.wrap (IntKind.i64.wrap ((d : Int) + (w : Int)) + 1) = ((d + w + 1 : Nat) : Int) := by rw [addw (by omega), addw1 (by omega)]
theorem take_lt {p n : Nat} {V : List Nat} (h : ∀ a ∈ V, a < p) : ∀ a ∈ V.take n, a < p := fun a ha => h a (List.mem_of_mem_take ha)
theorem drop1_lt {p n : Nat} {V : List Nat} (hp : 1 < p) (h : ∀ a ∈ V, a < p) : ∀ a ∈ V.drop n ++ [1], a < p := fun a ha => by
  rcases List.mem_append.1 ha with ha | ha
  · exact h a (List.mem_of_mem_drop ha)
  · rw [List.mem_singleton.1 ha]; exact hp
theorem divQ_lt {p : Nat} (hp : 0 < p) (f g : List Nat) : ∀ a ∈ divQ p f g, a < p := fun a ha => by
  unfold divQ at ha
  split at ha
  · cases ha
  · obtain ⟨i, _, rfl⟩ := tab_mem (short_mem ha); exact dvQ_lt hp _ _
theorem divQ_tidy (p : Nat) (f g : List Nat) : short (divQ p f g) = divQ p f g := by
  unfold divQ; split
  · rfl
  · exact short_short _
theorem divQ_len (p : Nat) (f g : List Nat) : (divQ p f g).length ≤ f.length + 1 := by
  unfold divQ dvK; split
  · simp
  · refine Nat.le_trans (short_len _) ?_
    rw [tab_len]
    have := short_len f
    omega
section
variable {p d w : Nat} {l : List TPoint}
theorem V_of {V : List Nat} (hp : isP p) (hl : Pts p l) (hn : d + 1 + 2 * w ≤ l.length) (hV : V.length = d + w + 1 + w) (hVp : ∀ a ∈ V, a < p) [NeZero p] (hs : Solves p l.length (d + w + 1 + w) (augM (d + w + 1 + w) (rowA p (d + w + 1) l) (rowB p w l)) fun k => cz p (zat V k)) {f : List Nat} (hf : Dec p d w l f) :
    divQ p (V.take (d + w + 1)) (V.drop (d + w + 1) ++ [1]) = f ∧ divR p (V.take (d + w + 1)) (V.drop (d + w + 1) ++ [1]) = [] :=
  div_prod hp hf.lt hf.tidy (fun a ha => hVp a (List.mem_of_mem_drop ha)) (sol_prod hp hl hn hf hV hVp hs)
theorem decode_Find_c (hp : isP p) (hl : Pts p l) (hll : l.length ≤ 64) (hn : d + 1 + 2 * w ≤ l.length) {K : List Nat → List Int → Bool → Prop} (k1 : ∀ f, Dec p d w l f → K f (ints (offL p f l)) true) (k0 : (∀ f, ¬ Dec p d w l f) → ∀ f a, K f a false) : decode_Find.C p d w l K := by
  have hp3 := hp.1
  have hpp := hp.2.1
  haveI : NeZero p := ⟨by omega⟩
  apply decode_Find.q
  unfold decode_Find.Q
  rw [dw1 (by omega)]
  refine LoopQ.upto l.length (fun i t => t = (tab i (fun a => tab (d + w + 1 + w) (rowA p (d + w + 1) l a)), tab i (rowB p w l), (i : Int))) rfl ?_
  rintro i _ next hi rfl hnx
  dsimp only
  by_cases h : i < l.length
  · obtain ⟨q, hq⟩ := get_some h
    obtain ⟨hqx, hqy⟩ := hl.1 q (mem_get hq)
    have ex : px l i = q.X := px_get hq
    have ey : py l i = q.Y := py_get hq
    refine ctd (by omega) ⟨by omega, q, hq, ?_⟩
    refine LoopQ.upto (d + w + 1) (fun k t => t = (tab k (rowA p (d + w + 1) l i), fpow p q.X k, (k : Int))) (by rw [fpow_zero (by omega)]; rfl) ?_
    rintro k _ next2 hk rfl hnx2
    dsimp only
    by_cases h2 : k < d + w + 1
    · refine ctd (by omega) ⟨AppOk.of (by simp [tab_len]; omega), field_Times_c (by omega) hpp (fpow_lt (by omega) _ _) hqx (hnx2 h2 _ ?_)⟩
      rw [← tab_snoc, rowA_lo h2, ex, wsucc (by omega), fpow_succ]
    obtain rfl : k = d + w + 1 := by omega
    refine cfd (by omega) ?_
    refine LoopQ.upto w (fun k t => t = (tab (d + w + 1 + k) (rowA p (d + w + 1) l i), fmul p q.Y (fpow p q.X k), (k : Int))) (by rw [fpow_zero (by omega), fmul_one hqy]; rfl) ?_
    rintro k _ next3 hk rfl hnx3
    dsimp only
    by_cases h3 : k < w
    · refine ctd (by omega) (field_Minus_c (by omega) hpp (by omega) (fmul_lt (by omega) _ _) ⟨AppOk.of (by simp [tab_len]; omega), field_Times_c (by omega) hpp (fmul_lt (by omega) _ _) hqx (hnx3 h3 _ ?_)⟩)
      rw [← Nat.add_assoc, ← tab_snoc, rowA_hi, ex, ey, wsucc (by omega), fmul_assoc, fpow_succ]
    obtain rfl : k = w := by omega
    refine cfd (by omega) ⟨AppOk.of (by simp [tab_len]; omega), AppOk.of (by simp [tab_len]; omega), hnx h _ ?_⟩
    rw [← tab_snoc (n := i), ← tab_snoc (n := i), wsucc (by omega)]
    unfold rowB
    rw [ex, ey]
  obtain rfl : i = l.length := by omega
  refine cfd (by omega) ?_
  refine matrix_Answer_c (n := l.length) (w := d + w + 1 + w) (A := rowA p (d + w + 1) l) (b := rowB p w l) (by omega) hpp (by omega) (by omega) (by omega) (rowA_lt (by omega) _ _) (rowB_lt (by omega) _ _) ?_ ?_
  · intro hno
    refine ct rfl (k0 (fun f hf => hno ?_) _ _)
    obtain ⟨x, hx⟩ := offs_sol hp hl hf
    exact sol_some hp (augM_lt (rowA_lt (by omega) _ _) (rowB_lt (by omega) _ _)) hx
  · intro hok
    have hM := augM_lt (p := p) (w := d + w + 1 + w) (rowA_lt (p := p) (by omega) (d + w + 1) l) (rowB_lt (p := p) (by omega) w l)
    have hs := sol_solves (n := l.length) (w := d + w + 1 + w) hp hM hok
    have hVp := solV_lt (p := p) (s := El.run p l.length (augM (d + w + 1 + w) (rowA p (d + w + 1) l) (rowB p w l)) (d + w + 1 + w)) (w := d + w + 1 + w) (by omega) (run_lt (by omega) hM _) (El.run p l.length (augM (d + w + 1 + w) (rowA p (d + w + 1) l) (rowB p w l)) (d + w + 1 + w)).lead.length
    have hV := solV_len (El.run p l.length (augM (d + w + 1 + w) (rowA p (d + w + 1) l) (rowB p w l)) (d + w + 1 + w)) (d + w + 1 + w) (El.run p l.length (augM (d + w + 1 + w) (rowA p (d + w + 1) l) (rowB p w l)) (d + w + 1 + w)).lead.length
    unfold solS at *
    generalize solV (El.run p l.length (augM (d + w + 1 + w) (rowA p (d + w + 1) l) (rowB p w l)) (d + w + 1 + w)) (d + w + 1 + w) (El.run p l.length (augM (d + w + 1 + w) (rowA p (d + w + 1) l) (rowB p w l)) (d + w + 1 + w)).lead.length = V at *
    refine cf rfl ⟨by omega, by omega, by omega, by omega, slices_Clone_c ⟨AppOk.of (by simp; omega), ?_⟩⟩
    rw [toNat_c]
    refine poly_Over_c hp (take_lt hVp) (drop1_lt (by omega) hVp) (by simp; omega) (by simp; omega) (by rw [short_monic]; simp) ?_
    have hQl := divQ_len p (V.take (d + w + 1)) (V.drop (d + w + 1) ++ [1])
    have hQp := divQ_lt (p := p) (by omega) (V.take (d + w + 1)) (V.drop (d + w + 1) ++ [1])
    refine decode_off_c (by omega) hpp hQp (fun q hq => (hl.1 q hq).1) (by omega) ?_
    by_cases hd : ∃ f, Dec p d w l f
    · obtain ⟨f, hf⟩ := hd
      obtain ⟨e1, e2⟩ := V_of hp hl hn hV hVp hs hf
      have hfl := hf.len
      have hfo := hf.off
      rw [e1, e2, addw1 (by omega), ints_len]
      have e3 : decide ((((offL p f l).length : Nat) : Int) ≤ (w : Int)) = true := decide_eq_true (by omega)
      rw [e3]
      exact ct rfl (ctd (by omega) (k1 f hf))
    · have hno : ∀ f, ¬ Dec p d w l f := fun f hf => hd ⟨f, hf⟩
      by_cases hr : (divR p (V.take (d + w + 1)) (V.drop (d + w + 1) ++ [1])).length = 0
      · refine ct (beq_t (by omega)) ?_
        rw [addw1 (by omega)]
        by_cases hql : (divQ p (V.take (d + w + 1)) (V.drop (d + w + 1) ++ [1])).length ≤ d + 1
        · refine ctd (by omega) ?_
          have e3 : decide ((((ints (offL p (divQ p (V.take (d + w + 1)) (V.drop (d + w + 1) ++ [1])) l)).length : Nat) : Int) ≤ (w : Int)) = false := decide_eq_false fun h => hno _ ⟨hQp, hql, divQ_tidy _ _ _, by rw [ints_len] at h; omega⟩
          rw [e3]
          exact k0 hno _ _
        · exact cfd (by omega) (k0 hno _ _)
      · exact cf (beq_f (by omega)) (k0 hno _ _)
theorem juntoref05_Decode_c (hp : isP p) (hl : Pts p l) (hll : l.length ≤ 64) (hn : d + 1 + 2 * w ≤ l.length) {K : List Nat → Bool → Prop} (k1 : ∀ f, Dec p d w l f → K f true) (k0 : (∀ f, ¬ Dec p d w l f) → K [] false) : juntoref05_Decode.C p d w l K := by
  have hp3 := hp.1
  have hpp := hp.2.1
  haveI : NeZero p := ⟨by omega⟩
  apply juntoref05_Decode.q
  unfold juntoref05_Decode.Q
  rw [dw1 (by omega)]
  refine LoopQ.upto l.length (fun i t => t = (tab i (fun a => tab (d + w + 1 + w) (rowA p (d + w + 1) l a)), tab i (rowB p w l), (i : Int))) rfl ?_
  rintro i _ next hi rfl hnx
  dsimp only
  by_cases h : i < l.length
  · obtain ⟨q, hq⟩ := get_some h
    obtain ⟨hqx, hqy⟩ := hl.1 q (mem_get hq)
    have ex : px l i = q.X := px_get hq
    have ey : py l i = q.Y := py_get hq
    refine ctd (by omega) ⟨by omega, q, hq, ?_⟩
    refine LoopQ.upto (d + w + 1) (fun k t => t = (tab k (rowA p (d + w + 1) l i), (k : Int))) rfl ?_
    rintro k _ next2 hk rfl hnx2
    dsimp only
    by_cases h2 : k < d + w + 1
    · rw [uw (by omega), toNat_c]
      refine ctd (by omega) (juntoref01_Pow_c (by omega) hpp hqx _ (by omega) ⟨AppOk.of (by simp [tab_len]; omega), hnx2 h2 _ ?_⟩)
      rw [← tab_snoc, rowA_lo h2, ex, wsucc (by omega)]
    obtain rfl : k = d + w + 1 := by omega
    refine cfd (by omega) ?_
    refine LoopQ.upto w (fun k t => t = (tab (d + w + 1 + k) (rowA p (d + w + 1) l i), (k : Int))) rfl ?_
    rintro k _ next3 hk rfl hnx3
    dsimp only
    rw [uw (x := k) (by omega), toNat_c]
    by_cases h3 : k < w
    · refine ctd (by omega) (juntoref01_Pow_c (by omega) hpp hqx _ (by omega) (juntoref01_Mul_c (by omega) hpp hqy (fpow_lt (by omega) _ _) (juntoref01_Sub_c (by omega) hpp (by omega) (fmul_lt (by omega) _ _) ⟨AppOk.of (by simp [tab_len]; omega), hnx3 h3 _ ?_⟩)))
      rw [← Nat.add_assoc, ← tab_snoc, rowA_hi, ex, ey, wsucc (by omega)]
    obtain rfl : k = w := by omega
    rw [uw (x := k) (by omega), toNat_c]
    refine cfd (by omega) ⟨AppOk.of (by simp [tab_len]; omega), juntoref01_Pow_c (by omega) hpp hqx _ (by omega) (juntoref01_Mul_c (by omega) hpp hqy (fpow_lt (by omega) _ _) ⟨AppOk.of (by simp [tab_len]; omega), hnx h _ ?_⟩)⟩
    rw [← tab_snoc (n := i), ← tab_snoc (n := i), wsucc (by omega)]
    unfold rowB
    rw [ex, ey]
  obtain rfl : i = l.length := by omega
  refine cfd (by omega) ?_
  refine juntoref03_Solve_c (n := l.length) (w := d + w + 1 + w) (A := rowA p (d + w + 1) l) (b := rowB p w l) (by omega) hpp (by omega) (by omega) (by omega) (rowA_lt (by omega) _ _) (rowB_lt (by omega) _ _) ?_ ?_
  · intro hno
    refine ct rfl (k0 (fun f hf => hno ?_))
    obtain ⟨x, hx⟩ := offs_sol hp hl hf
    exact sol_some hp (augM_lt (rowA_lt (by omega) _ _) (rowB_lt (by omega) _ _)) hx
  · intro hok
    have hM := augM_lt (p := p) (w := d + w + 1 + w) (rowA_lt (p := p) (by omega) (d + w + 1) l) (rowB_lt (p := p) (by omega) w l)
    have hs := sol_solves (n := l.length) (w := d + w + 1 + w) hp hM hok
    have hVp := solV_lt (p := p) (s := El.run p l.length (augM (d + w + 1 + w) (rowA p (d + w + 1) l) (rowB p w l)) (d + w + 1 + w)) (w := d + w + 1 + w) (by omega) (run_lt (by omega) hM _) (El.run p l.length (augM (d + w + 1 + w) (rowA p (d + w + 1) l) (rowB p w l)) (d + w + 1 + w)).lead.length
    have hV := solV_len (El.run p l.length (augM (d + w + 1 + w) (rowA p (d + w + 1) l) (rowB p w l)) (d + w + 1 + w)) (d + w + 1 + w) (El.run p l.length (augM (d + w + 1 + w) (rowA p (d + w + 1) l) (rowB p w l)) (d + w + 1 + w)).lead.length
    unfold solS at *
    generalize solV (El.run p l.length (augM (d + w + 1 + w) (rowA p (d + w + 1) l) (rowB p w l)) (d + w + 1 + w)) (d + w + 1 + w) (El.run p l.length (augM (d + w + 1 + w) (rowA p (d + w + 1) l) (rowB p w l)) (d + w + 1 + w)).lead.length = V at *
    refine cf rfl ⟨by omega, by omega, by omega, by omega, AppOk.of (by simp; omega), AppOk.of (by simp; omega), ?_⟩
    rw [toNat_c]
    refine juntoref02_Divide_c hp (take_lt hVp) (drop1_lt (by omega) hVp) (by simp; omega) (by simp; omega) (by rw [short_monic]; simp) ?_
    have hQl := divQ_len p (V.take (d + w + 1)) (V.drop (d + w + 1) ++ [1])
    have hQp := divQ_lt (p := p) (by omega) (V.take (d + w + 1)) (V.drop (d + w + 1) ++ [1])
    have hQ2 : (divQ p (V.take (d + w + 1)) (V.drop (d + w + 1) ++ [1])).length ≤ 1000 := by simp at hQl; omega
    rw [addw1 (by omega)]
    by_cases hd : ∃ f, Dec p d w l f
    · obtain ⟨f, hf⟩ := hd
      obtain ⟨e1, e2⟩ := V_of hp hl hn hV hVp hs hf
      have hfl := hf.len
      have hfo := hf.off
      rw [e1] at hQp hQ2
      rw [e1, e2]
      refine cfd (by simp) (cfd (by omega) (juntoref05_Off_c (by omega) hpp hQp (by omega) (fun q hq => (hl.1 q hq).1) (by omega) (cfd (by rw [ints_len]; omega) (k1 f hf))))
    · have hno : ∀ f, ¬ Dec p d w l f := fun f hf => hd ⟨f, hf⟩
      by_cases hr : (divR p (V.take (d + w + 1)) (V.drop (d + w + 1) ++ [1])).length = 0
      · refine cfd (by omega) ?_
        by_cases hql : (divQ p (V.take (d + w + 1)) (V.drop (d + w + 1) ++ [1])).length ≤ d + 1
        · refine cfd (by omega) (juntoref05_Off_c (by omega) hpp hQp (by omega) (fun q hq => (hl.1 q hq).1) (by omega) ?_)
          refine ctd ?_ (k0 hno)
          rw [ints_len]
          have : ¬ (offL p (divQ p (V.take (d + w + 1)) (V.drop (d + w + 1) ++ [1])) l).length ≤ w := fun h => hno _ ⟨hQp, hql, divQ_tidy _ _ _, h⟩
          omega
        · exact ctd (by omega) (k0 hno)
      · exact ctd (by omega) (k0 hno)
end
end Go.Proofs.Ytlhcaangdenoaaa.Pl
