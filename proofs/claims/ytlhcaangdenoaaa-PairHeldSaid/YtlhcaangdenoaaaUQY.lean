import Derived.Test.YtlhcaangdenoaaaUQX
import Derived.Test.YtlhcaangdenoaaaUFnPairHeld
namespace Go.Lf
end Go.Lf
namespace Go.Proofs.Ytlhcaangdenoaaa.Sh
end Go.Proofs.Ytlhcaangdenoaaa.Sh
namespace Go.Proofs.Ytlhcaangdenoaaa.Sp
end Go.Proofs.Ytlhcaangdenoaaa.Sp
namespace Go.Proofs.Ytlhcaangdenoaaa.Srt
end Go.Proofs.Ytlhcaangdenoaaa.Srt
namespace Go.Sx
end Go.Sx
set_option linter.unusedVariables false
set_option linter.unusedSimpArgs false
namespace Go.Proofs.Ytlhcaangdenoaaa.Pl
open Go.Sx Go.Lf Go.Proofs.Ytlhcaangdenoaaa.Sh Go.Proofs.Ytlhcaangdenoaaa.Sp Go.Proofs.Ytlhcaangdenoaaa.Srt
section
variable {p : Nat} [NeZero p]
theorem S_sub (g h : Nat → Fin p) (m : Nat) : S (fun i => g i - h i) m = S g m - S h m := by
  have e : S (fun i => g i - h i) m = S (fun i => g i + (-1 : Fin p) * h i) m := S_ext fun i _ => by grind
  rw [e, S_add, S_mul]; grind
theorem S_flip (g : Nat → Nat → Fin p) (n : Nat) : ∀ m, S (fun k => S (fun j => g j k) n) m = S (fun j => S (fun k => g j k) m) n
  | 0 => (S_zero n).symm
  | m + 1 => by
    show S (fun k => S (fun j => g j k) n) m + S (fun j => g j m) n = S (fun j => S (fun k => g j k) m + g j m) n
    rw [S_flip g n m, S_add]
def GG (a : Nat → Nat → Fin p) (n : Nat) (U V : Fin p) : Fin p := S (fun k => S (fun j => a j k * U ^ j) n * V ^ k) n
theorem GG_flip (a : Nat → Nat → Fin p) (n : Nat) (U V : Fin p) : GG a n U V = GG (fun j k => a k j) n V U := by
  unfold GG
  have e1 : S (fun k => S (fun j => a j k * U ^ j) n * V ^ k) n = S (fun k => S (fun j => a j k * U ^ j * V ^ k) n) n := S_ext fun k _ => by
    rw [show S (fun j => a j k * U ^ j) n * V ^ k = V ^ k * S (fun j => a j k * U ^ j) n by grind, ← S_mul]
    exact S_ext fun j _ => by grind
  have e2 : S (fun k => S (fun j => a k j * V ^ j) n * U ^ k) n = S (fun k => S (fun j => a k j * U ^ k * V ^ j) n) n := S_ext fun k _ => by
    rw [show S (fun j => a k j * V ^ j) n * U ^ k = U ^ k * S (fun j => a k j * V ^ j) n by grind, ← S_mul]
    exact S_ext fun j _ => by grind
  rw [e1, e2, S_flip (fun j k => a j k * U ^ j * V ^ k) n n]
theorem GG_sym {a : Nat → Nat → Fin p} {n : Nat} (h : ∀ i k, i < n → k < n → a i k = a k i) (U V : Fin p) : GG a n U V = GG a n V U := by
  rw [GG_flip]
  unfold GG
  exact S_ext fun k hk => congrArg (· * U ^ k) (S_ext fun j hj => by show a k j * V ^ j = a j k * V ^ j; rw [h k j hk hj])
theorem poly_zero (hp : isP p) {xs : List Nat} (hn : xs.Nodup) (hx : ∀ x ∈ xs, x < p) {g : Nat → Fin p} {n : Nat} (hl : n ≤ xs.length) (h : ∀ i, i < n → S (fun k => g k * cz p (zat xs i) ^ k) n = 0) : ∀ k, k < n → g k = 0 := by
  intro k hk
  refine roots_zero hp ((xs.take n).map (cz p)) (tab n g) (cz_nodup (hn.sublist (List.take_sublist _ _)) fun x h' => hx x (List.mem_of_mem_take h')) (by rw [tab_len]; simp; omega) (fun x hx' => ?_) _ (mem_get (tab_get g hk))
  obtain ⟨y, hy, rfl⟩ := List.mem_map.1 hx'
  obtain ⟨i, hi⟩ := List.mem_iff_getElem?.1 hy
  have hin : i < n := by
    have := lt_get hi; simp at this; omega
  rw [List.getElem?_take_of_lt hin] at hi
  rw [pe_tab, ← zat_get hi]
  exact h i hin
end
theorem interp_ex {p : Nat} (hp : isP p) : ∀ l : List TPoint, Pts p l → ∃ f, Interp p l f := by
  have hp3 := hp.1
  haveI : NeZero p := ⟨by omega⟩
  have W : ∀ l : List TPoint, Pts p l → ∃ w : List Nat, (∀ a ∈ w, a < p) ∧ w.length ≤ l.length + 1 ∧ (∀ q ∈ l, pv p w (cz p q.X) = 0) ∧ ∀ x, x < p → (∀ q ∈ l, q.X ≠ x) → pv p w (cz p x) ≠ 0 := by
    intro l
    induction l with
    | nil => exact fun _ => ⟨[1], by simp; omega, by simp, (fun q h => nomatch h), fun x _ _ => by rw [pv_cons, pv_nil, cz_one]; intro h; have := cz_inj (p := p) (a := 1) (b := 0) (by omega) (by omega) (by rw [cz_one, cz_zero]; grind); omega⟩
    | cons q l ih =>
      intro h
      obtain ⟨w, w1, w2, w3, w4⟩ := ih ⟨fun q hq => h.1 q (.tail _ hq), (List.nodup_cons.1 (show (q.X :: l.map (·.X)).Nodup from h.2)).2⟩
      have hq := (h.1 q (.head _)).1
      refine ⟨mulP p w [fsub p 0 q.X, 1], fun a ha => mulP_lt (by omega) ha, ?_, ?_, ?_⟩
      · have := mulP_len (p := p) (by omega) w [fsub p 0 q.X, 1]; simp at this ⊢; omega
      · intro r hr
        rw [mulP_eval (by omega), pv_lin (by omega)]
        rcases List.mem_cons.1 hr with rfl | hr
        · grind
        · rw [w3 r hr]; grind
      · intro x hx hne h0
        rw [mulP_eval (by omega), pv_lin (by omega)] at h0
        have a1 := w4 x hx fun r hr => hne r (.tail _ hr)
        have a2 : cz p x - cz p q.X = 0 := fin_cancel hp a1 (by rw [h0]; grind)
        exact hne q (.head _) (cz_inj hq hx (by grind))
  intro l
  induction l with
  | nil => exact fun _ => ⟨[], (fun a h => nomatch h), by simp, rfl, (fun q h => nomatch h)⟩
  | cons q l ih =>
    intro h
    have ht : Pts p l := ⟨fun q hq => h.1 q (.tail _ hq), (List.nodup_cons.1 (show (q.X :: l.map (·.X)).Nodup from h.2)).2⟩
    obtain ⟨f, f1, f2, f3, f4⟩ := ih ht
    obtain ⟨w, w1, w2, w3, w4⟩ := W l ht
    have hnq : ∀ r ∈ l, r.X ≠ q.X := fun r hr e => (List.nodup_cons.1 (show (q.X :: l.map (·.X)).Nodup from h.2)).1 (by rw [← e]; exact List.mem_map.2 ⟨r, hr, rfl⟩)
    obtain ⟨b, hb⟩ := fin_inv hp (w4 q.X (h.1 q (.head _)).1 hnq)
    refine ⟨addP p f (scaleP p w ((cz p q.Y - pv p f (cz p q.X)) * b).val), fun a ha => addP_lt (by omega) ha, ?_, ?_, ?_⟩
    · refine Nat.le_trans (addP_len p f _) (mx_lub (by simp; omega) (Nat.le_trans (scaleP_len p _ w) (by simp; omega)))
    · unfold addP; exact short_short _
    · intro _ r hr
      rw [pv_addP, pv_scaleP, cz_val]
      rcases List.mem_cons.1 hr with rfl | hr
      · generalize pv p w (cz p r.X) = u at *
        generalize pv p f (cz p r.X) = v at *
        have : u * ((cz p r.Y - v) * b) = (cz p r.Y - v) * (u * b) := by grind
        rw [this, hb]; grind
      · rw [w3 r hr, f4 r hr]; grind
theorem zat_short' (f : List Nat) (j : Nat) : Pl.zat (short f) j = Pl.zat f j := by
  obtain ⟨n, hn⟩ := short_split f
  rcases Nat.lt_or_ge j (short f).length with h | h
  · conv => rhs; rw [hn]
    unfold Pl.zat; rw [List.getElem?_append_left h]
  · rw [zat_none h]
    conv => rhs; rw [hn]
    unfold Pl.zat
    rw [List.getElem?_append_right h]
    cases he : (List.replicate n 0)[j - (short f).length]? with
    | none => rfl
    | some v => have := mem_get he; simp at this; rw [this.2]; rfl
theorem RowsOk.zat {p : Nat} {xs : List Nat} {l : List (List Nat)} (h : RowsOk p xs l) {i : Nat} (hi : i < xs.length) : zat xs i < p := by
  obtain ⟨x, hx⟩ := get_some hi
  rw [zat_get hx]; exact h.lt x (mem_get hx)
theorem held {p d : Nat} (hp : isP p) {xs : List Nat} {l : List (List Nat)} (h : RowsOk p xs l) (hd : d + 1 ≤ xs.length) (hs : ∀ r ∈ l, (short r).length ≤ d + 1) (hq : ∀ i k, i < k → k < xs.length → ¬ bad p xs l i k) : JoinOk p d xs l (glueF p d xs l) := by
  have hp3 := hp.1
  haveI : NeZero p := ⟨by omega⟩
  have hI : ∀ k, Interp p (ptsOf d xs l k) (fitP p (ptsOf d xs l k)) := fun k => by
    obtain ⟨f, hf⟩ := interp_ex hp _ (ptsOf_ok (by omega) h hd k)
    rw [fitP_of hp (ptsOf_ok (by omega) h hd k) hf]; exact hf
  have hgl : ∀ j k, glueV p d xs l k j < p := fun j k => zat_lt (by omega) (hI k).1 j
  have row : ∀ (i : Nat) (z : Fin p), i < xs.length → pv p (lat l i) z = S (fun k => cz p (at2 l i k) * z ^ k) (d + 1) := by
    intro i z hi
    obtain ⟨r, hr⟩ := get_some (show i < l.length by rw [h.len]; exact hi)
    have e : lat l i = r := by unfold lat; rw [hr]; rfl
    rw [e, ← pv_short, ← pv_zat (short r) (hs r (mem_get hr))]
    exact S_ext fun k _ => by rw [zat_short', show at2 l i k = Pl.zat r k by unfold at2 Pl.zat; rw [hr]; rfl]
  have agree : ∀ i m, i < xs.length → m < xs.length → pv p (lat l i) (cz p (Pl.zat xs m)) = pv p (lat l m) (cz p (Pl.zat xs i)) := by
    have half : ∀ i m, i < m → m < xs.length → pv p (lat l i) (cz p (Pl.zat xs m)) = pv p (lat l m) (cz p (Pl.zat xs i)) := fun i m hi hm => by
      have := Classical.not_not.1 (hq i m hi hm)
      rw [← pv_evalH, ← pv_evalH, this]
    intro i m hi hm
    rcases Nat.lt_trichotomy i m with h' | rfl | h'
    · exact half i m h' hm
    · rfl
    · exact (half m i h' hi).symm
  have col : ∀ i k, i < d + 1 → S (fun j => cz p (glueV p d xs l k j) * cz p (Pl.zat xs i) ^ j) (d + 1) = cz p (at2 l i k) := by
    intro i k hi
    have := (hI k).2.2.2 (ptAt xs l k i) (mem_get (tab_get _ hi))
    have hl := (hI k).2.1
    rw [show (ptsOf d xs l k).length = d + 1 from tab_len _ _] at hl
    unfold glueV
    rw [pv_zat _ hl]
    exact this
  have val : ∀ i (V : Fin p), i < d + 1 → GG (fun j k => cz p (glueV p d xs l k j)) (d + 1) (cz p (Pl.zat xs i)) V = pv p (lat l i) V := by
    intro i V hi
    rw [row i V (by omega)]
    exact S_ext fun k _ => by rw [col i k hi]
  have sym : ∀ j k, j < d + 1 → k < d + 1 → glueV p d xs l k j = glueV p d xs l j k := by
    have z1 : ∀ i, i < d + 1 → ∀ k, k < d + 1 → S (fun j => (cz p (glueV p d xs l k j) - cz p (glueV p d xs l j k)) * cz p (Pl.zat xs i) ^ j) (d + 1) = 0 := by
      intro i hi
      refine poly_zero hp h.nd h.lt hd fun m hm => ?_
      have e1 := val i (cz p (Pl.zat xs m)) hi
      have e2 := val m (cz p (Pl.zat xs i)) hm
      rw [GG_flip] at e2
      have e3 := agree i m (by omega) (by omega)
      unfold GG at e1 e2
      rw [← e1, ← e2] at e3
      have e4 := S_sub (fun k => S (fun j => cz p (glueV p d xs l k j) * cz p (Pl.zat xs i) ^ j) (d + 1) * cz p (Pl.zat xs m) ^ k) (fun k => S (fun j => cz p (glueV p d xs l j k) * cz p (Pl.zat xs i) ^ j) (d + 1) * cz p (Pl.zat xs m) ^ k) (d + 1)
      rw [e3] at e4
      refine Eq.trans (S_ext fun k _ => ?_) (e4.trans (by grind))
      have e5 := S_sub (fun j => cz p (glueV p d xs l k j) * cz p (Pl.zat xs i) ^ j) (fun j => cz p (glueV p d xs l j k) * cz p (Pl.zat xs i) ^ j) (d + 1)
      have e6 : S (fun j => (cz p (glueV p d xs l k j) - cz p (glueV p d xs l j k)) * cz p (Pl.zat xs i) ^ j) (d + 1) = S (fun j => cz p (glueV p d xs l k j) * cz p (Pl.zat xs i) ^ j - cz p (glueV p d xs l j k) * cz p (Pl.zat xs i) ^ j) (d + 1) := S_ext fun j _ => by grind
      rw [e6, e5]; grind
    intro j k hj hk
    have := poly_zero hp h.nd h.lt hd (g := fun j => cz p (glueV p d xs l k j) - cz p (glueV p d xs l j k)) (fun i hi => z1 i hi k hk) j hj
    exact cz_inj (hgl _ _) (hgl _ _) (by grind)
  have hP : Pr p d (glueF p d xs l) := Pr.of_mat (fun i k _ _ => hgl i k) fun i k hi hk => sym i k hi hk
  refine ⟨hP, fun i x r hx hr => ?_⟩
  have hi := lt_get hx
  have hrl := hs r (mem_get hr)
  have hlr : lat l i = r := by unfold lat; rw [hr]; rfl
  have key : ∀ k, k < d + 1 → S (fun j => cz p (glueV p d xs l k j) * cz p x ^ j) (d + 1) - cz p (Pl.zat (short r) k) = 0 := by
    refine poly_zero hp h.nd h.lt hd fun m hm => ?_
    have e1 : GG (fun j k => cz p (glueV p d xs l k j)) (d + 1) (cz p x) (cz p (Pl.zat xs m)) = pv p r (cz p (Pl.zat xs m)) := by
      rw [GG_sym (fun a b ha hb => by rw [sym a b ha hb]), val m _ hm, ← zat_get hx, ← hlr]
      exact agree m i (by omega) hi
    rw [← pv_short, ← pv_zat (short r) hrl] at e1
    unfold GG at e1
    have e4 := S_sub (fun k => S (fun j => cz p (glueV p d xs l k j) * cz p x ^ j) (d + 1) * cz p (Pl.zat xs m) ^ k) (fun k => cz p (Pl.zat (short r) k) * cz p (Pl.zat xs m) ^ k) (d + 1)
    rw [e1] at e4
    refine Eq.trans (S_ext fun k _ => by grind) (e4.trans (by grind))
  have e : rowV p (d + 1) (at2 (glueF p d xs l)) x = tab (d + 1) (Pl.zat (short r)) := by
    refine tab_ext fun k hk => cz_inj (psum_lt (by omega) _ _) (zat_lt (by omega) (fun a ha => h.bel r (mem_get hr) a (short_mem ha)) k) ?_
    rw [psum_S]
    have := key k hk
    have e2 : S (fun j => cz p (at2 (glueF p d xs l) k j) * cz p x ^ j) (d + 1) = S (fun j => cz p (glueV p d xs l k j) * cz p x ^ j) (d + 1) := S_ext fun j hj => by
      rw [show at2 (glueF p d xs l) k j = glueV p d xs l j k from at2_mat _ hk hj, sym j k hj hk]
    rw [e2]; grind
  unfold rowOf
  rw [e, tab_zat _ hrl, short_zeros, short_short]
theorem pv_row {p d : Nat} [NeZero p] (F : List (List Nat)) (x : Nat) (V : Fin p) : pv p (rowOf p d F x) V = GG (fun j k => cz p (at2 F k j)) (d + 1) (cz p x) V := by
  unfold rowOf
  rw [pv_short]
  unfold rowV
  rw [pv_tab]
  exact S_ext fun k _ => by rw [psum_S]
theorem joined {p d : Nat} (hp : isP p) {xs : List Nat} {l : List (List Nat)} (h : RowsOk p xs l) {F : List (List Nat)} (hF : JoinOk p d xs l F) (i k : Nat) (hi : i < xs.length) (hk : k < xs.length) : ¬ bad p xs l i k := by
  have hp3 := hp.1
  haveI : NeZero p := ⟨by omega⟩
  have val : ∀ i m, i < xs.length → m < xs.length → pv p (lat l i) (cz p (Pl.zat xs m)) = GG (fun j k => cz p (at2 F k j)) (d + 1) (cz p (Pl.zat xs i)) (cz p (Pl.zat xs m)) := by
    intro i m hi hm
    obtain ⟨x, hx⟩ := get_some hi
    obtain ⟨r, hr⟩ := get_some (show i < l.length by rw [h.len]; exact hi)
    rw [← pv_row, show lat l i = r by unfold lat; rw [hr]; rfl, ← pv_short, ← hF.2 i x r hx hr, zat_get hx]
  refine fun hb => hb (cz_inj (evalH_lt (by omega) _ _) (evalH_lt (by omega) _ _) ?_)
  rw [pv_evalH, pv_evalH, val i k hi hk, val k i hk hi]
  exact GG_sym (fun a b ha hb => by rw [hF.1.sym b a hb ha]) _ _
theorem join_uniq {p d : Nat} (hp : isP p) {xs : List Nat} {l : List (List Nat)} (h : RowsOk p xs l) (hd : d + 1 ≤ xs.length) {f g : Nat → Nat → Nat} (hF : JoinOk p d xs l (mat (d + 1) f)) (hG : JoinOk p d xs l (mat (d + 1) g)) : mat (d + 1) f = mat (d + 1) g := by
  have hp3 := hp.1
  haveI : NeZero p := ⟨by omega⟩
  have row : ∀ i, i < d + 1 → ∀ k, k < d + 1 → S (fun j => cz p (at2 (mat (d + 1) f) k j) * cz p (Pl.zat xs i) ^ j) (d + 1) = S (fun j => cz p (at2 (mat (d + 1) g) k j) * cz p (Pl.zat xs i) ^ j) (d + 1) := by
    intro i hi k hk
    obtain ⟨x, hx⟩ := get_some (show i < xs.length by omega)
    obtain ⟨r, hr⟩ := get_some (show i < l.length by rw [h.len]; omega)
    have e := short_inj (by simp [rowV, tab_len]) ((hF.2 i x r hx hr).trans (hG.2 i x r hx hr).symm)
    obtain ⟨v, hv, hve⟩ := rowV_eval (p := p) (d + 1) (at2 (mat (d + 1) f)) x k hk
    obtain ⟨w, hw, hwe⟩ := rowV_eval (p := p) (d + 1) (at2 (mat (d + 1) g)) x k hk
    rw [e, hw] at hv; cases hv
    have e2 := congrArg (cz p) (hve.symm.trans hwe)
    rw [psum_S, psum_S] at e2
    rw [zat_get hx]; exact e2
  refine tab_ext fun k hk => tab_ext fun j hj => ?_
  have := poly_zero hp h.nd h.lt hd (g := fun j => cz p (at2 (mat (d + 1) f) k j) - cz p (at2 (mat (d + 1) g) k j)) (fun i hi => by
    have e4 := S_sub (fun j => cz p (at2 (mat (d + 1) f) k j) * cz p (Pl.zat xs i) ^ j) (fun j => cz p (at2 (mat (d + 1) g) k j) * cz p (Pl.zat xs i) ^ j) (d + 1)
    rw [row i hi k hk] at e4
    exact Eq.trans (S_ext fun j _ => by grind) (e4.trans (by grind))) j hj
  have e := cz_inj (hF.1.lt hk hj) (hG.1.lt hk hj) (by grind)
  rwa [at2_mat f hk hj, at2_mat g hk hj] at e
theorem isC_of {p : Nat} : ∀ {l : List (List Nat)}, (∀ f ∈ l, rowC p f = 0) → isC p l = 0
  | [], _ => rfl
  | g :: l, h => by unfold isC; rw [if_pos (h g (.head _))]; exact isC_of fun f hf => h f (.tail _ hf)
theorem rows_of {p : Nat} {xs : List Nat} {l : List (List Nat)} (h : RowsOk p xs l) : rowsC p xs l = 0 := by
  unfold rowsC
  rw [if_neg (by have := h.few; omega), if_neg (by simp [h.len]), if_neg (by simp [below_of h.lt]), if_pos h.nd]
  refine isC_of fun f hf => ?_
  unfold rowC
  rw [if_neg (by have := h.short f hf; omega), below_of (h.bel f hf)]; rfl
theorem RowsOk.drop {p : Nat} {xs : List Nat} {l : List (List Nat)} (h : RowsOk p xs l) (m : Nat) : RowsOk p (xs.drop m) (l.drop m) :=
  ⟨by have := h.few; simp; omega, by simp [h.len], fun x hx => h.lt x (List.mem_of_mem_drop hx), h.nd.sublist (List.drop_sublist _ _), fun r hr => h.short r (List.mem_of_mem_drop hr), fun r hr => h.bel r (List.mem_of_mem_drop hr)⟩
theorem JoinOk.drop {p d : Nat} {xs : List Nat} {l : List (List Nat)} {F : List (List Nat)} (h : JoinOk p d xs l F) (m : Nat) : JoinOk p d (xs.drop m) (l.drop m) F :=
  ⟨h.1, fun i x r hx hr => h.2 (m + i) x r (by rwa [List.getElem?_drop] at hx) (by rwa [List.getElem?_drop] at hr)⟩
theorem bad_drop {p : Nat} {xs : List Nat} {l : List (List Nat)} (m i k : Nat) : bad p (xs.drop m) (l.drop m) i k ↔ bad p xs l (m + i) (m + k) := by
  unfold bad lat Pl.zat
  simp only [List.getElem?_drop]
theorem Sz.drop {l : List (List Nat)} (h : Sz l) (m : Nat) : Sz (l.drop m) := ⟨by have := h.1; simp; omega, fun r hr => h.2 r (List.mem_of_mem_drop hr)⟩
theorem PairHeld_c {p : Nat} {q : TRows} (hX : q.Xs.length ≤ 17592186044416) (hR : Sz q.Rows) : juntolaw06_PairHeld.C p q fun b => b = true := by
  refine juntolaw06_PairHeld.q (juntoref06_Bounds_c ?_)
  rcases ground_cases p q.T_ with h0 | ⟨h0, hp, d, ht, hd⟩
  · exact ct (bne_t (by rw [h0]; decide)) (alive_c rfl)
  refine cf (bne_f h0) (juntoref06_Rows_c hX hR ?_)
  by_cases hr : ¬ rowsC p q.Xs q.Rows = 0
  · exact ct (bne_t hr) (alive_c rfl)
  replace hr := Classical.not_not.1 hr
  have h := rows_ok hr
  have hfew := h.few
  have hlen := h.len
  have hpr : prm p = true := prm_iff.2 hp
  refine cf (bne_f hr) ?_
  rw [ht, wsucc (k := d) (by omega)]
  by_cases hl : q.Xs.length < d + 1
  · exact ctd (by omega) (alive_c rfl)
  refine cfd (by omega) ?_
  refine LoopQ.range q.Rows.length (fun n => ∀ i r, i < n → q.Rows[i]? = some r → (short r).length ≤ d + 1) (fun i r hi => by omega) (by omega) ?_ ?_
  · intro n next hn hI hnx
    obtain ⟨r, hr'⟩ := get_some hn
    refine ctd (by omega) ⟨by omega, r, hr', juntoref02_Trim_c (by have := h.short r (mem_get hr'); omega) ?_⟩
    by_cases hs : (short r).length ≤ d + 1
    · refine cfd (by omega) (hnx fun i s hi hs' => ?_)
      rcases Nat.lt_or_ge i n with h' | h'
      · exact hI i s h' hs'
      · obtain rfl : i = n := by omega
        rw [hr'] at hs'; cases hs'; exact hs
    · exact ctd (by omega) (alive_c rfl)
  intro next hI
  have hs : ∀ r ∈ q.Rows, (short r).length ≤ d + 1 := fun r hr => by
    obtain ⟨i, hi⟩ := List.mem_iff_getElem?.1 hr
    exact hI i r (lt_get hi) hi
  refine cfd (by omega) (pquar_c hX hR (fun hb => by rw [hpr] at hb; cases hb) (fun _ hb => (hb hr).elim) fun _ _ out hO => ?_)
  have hno : out.length = 0 ↔ ∀ i k, i < k → k < q.Xs.length → ¬ bad p q.Xs q.Rows i k := by
    constructor
    · intro h0 i k hi hk hb
      have : pr i k ∈ out := (hO.mem _).2 ⟨i, k, rfl, ⟨hi, hk⟩, hb⟩
      rw [List.eq_nil_of_length_eq_zero h0] at this; cases this
    · intro hn
      cases out with
      | nil => rfl
      | cons a o =>
        obtain ⟨i, k, _, ⟨hi, hk⟩, hb⟩ := (hO.mem a).1 (.head _)
        exact (hn i k hi hk hb).elim
  refine pair_Join_c hX hR (fun hb => (hb (by rw [← ht]; exact h0)).elim) (fun _ hb => (hb hr).elim) ?_ ?_ ?_
  · intro d' e _ _ _ hb
    omega
  · intro d' e hd' _ _ _ hl' hbad
    obtain rfl : d = d' := by omega
    refine cf rfl ?_
    by_cases hz : out.length = 0
    · exact (hbad (held hp h hl' hs (hno.1 hz))).elim
    · exact ctd (by omega) (ct rfl (ct rfl (alive_c rfl)))
  · intro d' e hd' _ _ _ hl' hok
    obtain rfl : d = d' := by omega
    have hz : out.length = 0 := hno.2 fun i k hi hk => joined hp h hok i k (by omega) hk
    refine cf rfl (cfd (by omega) ?_)
    have em : IntKind.i64.wrap (IntKind.i64.wrap (((q.Xs.length : Nat) : Int) - (d : Int)) - 1) = ((q.Xs.length - d - 1 : Nat) : Int) := by
      rw [wi64 (x := ((q.Xs.length : Nat) : Int) - (d : Int)) (by omega) (by omega), wi64 (by omega) (by omega)]; omega
    rw [em, toNat_c]
    generalize hm : q.Xs.length - d - 1 = m at *
    refine ⟨by omega, by omega, by omega, by omega, ?_⟩
    have hdr := h.drop m
    have hdl : (q.Xs.drop m).length = d + 1 := by simp; omega
    have h02 : groundC p (d : Int) = 0 := by rw [← ht]; exact h0
    have hr2 := rows_of hdr
    refine pair_Join_c (by omega) (Sz.drop hR m) (fun hb => (hb h02).elim) (fun _ hb => (hb hr2).elim) ?_ ?_ ?_
    · intro d' e _ _ _ hb
      omega
    · intro d' e hd' _ _ _ hl2 hbad
      obtain rfl : d = d' := by omega
      refine (hbad (held hp hdr hl2 (fun r hr => hs r (List.mem_of_mem_drop hr)) fun i k hi hk hb => ?_)).elim
      exact joined hp h hok _ _ (by omega) (by omega) ((bad_drop m i k).1 hb)
    · intro d' e hd' _ _ _ hl2 hok2
      obtain rfl : d = d' := by omega
      have eqF : glueF p d q.Xs q.Rows = glueF p d (q.Xs.drop m) (q.Rows.drop m) := join_uniq hp hdr hl2 (hok.drop m) hok2
      refine cf rfl (cf rfl (juntoref06_Same_c (glue_sz p hd _ _) ?_))
      rw [decide_eq_true eqF]
      refine cf rfl ?_
      refine LoopQ.range q.Xs.length (fun _ => True) trivial (by omega) ?_ ?_
      · intro n next2 hn _ hnx
        obtain ⟨x, hx⟩ := get_some hn
        obtain ⟨r, hr'⟩ := get_some (show n < q.Rows.length by omega)
        refine ctd (by omega) ⟨by omega, x, hx, pair_Row_c (glue_sz p hd _ _) ?_ ?_⟩
        · rintro e' (⟨hb, _⟩ | ⟨_, hb, _⟩)
          · exact (hb (check_ok hp hd hok.1)).elim
          · have := h.lt x (mem_get hx); omega
        · intro d' e' _ _ _ _
          obtain rfl : d = d' := by omega
          refine ⟨by omega, r, hr', juntoref02_Trim_c (by have := h.short r (mem_get hr'); omega) (juntoref01_Same_c (by have := rowOf_len p d (glueF p d q.Xs q.Rows) x; omega) ?_)⟩
          rw [decide_eq_true (hok.2 n x r hx hr')]
          exact cf rfl (hnx trivial)
      · intro next2 _
        exact cfd (by omega) (alive_c rfl)
end Go.Proofs.Ytlhcaangdenoaaa.Pl
