import Derived.Test.YtajdpkinlnaidaaSE
namespace Go.Lf
end Go.Lf
namespace Go.Proofs.Ytajdpkinlnaidaa.Back
end Go.Proofs.Ytajdpkinlnaidaa.Back
namespace Go.Proofs.Ytajdpkinlnaidaa.Pl
end Go.Proofs.Ytajdpkinlnaidaa.Pl
namespace Go.Proofs.Ytajdpkinlnaidaa.Sh
end Go.Proofs.Ytajdpkinlnaidaa.Sh
namespace Go.Proofs.Ytajdpkinlnaidaa.Sp
end Go.Proofs.Ytajdpkinlnaidaa.Sp
namespace Go.Sx
end Go.Sx
section
set_option linter.unusedVariables false
set_option linter.unusedSimpArgs false
set_option maxRecDepth 100000
set_option maxHeartbeats 8000000
namespace Go.Proofs.Ytajdpkinlnaidaa.Sh
open Go.Sx
def juntoref20_Line.A : Ann where
  loops := fun i => match i with
    | 12295 => [(10, .slice), (15, .int .i64)]
    | _ => []
  plans := fun i => match i with
    | _ => .stop
def juntoref20_Line.W (w_0 : Int) (w_1 : Int) (w_2 : Int) (w_3A : Option Addr) (w_3n w_3c : Nat) (w_4A : Option Addr) (w_4n w_4c : Nat) (w_5A : Option Addr) (w_5n w_5c : Nat) (w_6 : Int) (w_7A : Option Addr) (w_7n w_7c : Nat) (holdersA : Option Addr) (holdersn holdersc : Nat) (d : Int) (sharesA : Option Addr) (sharesn sharesc : Nat) (H : Heap) (R : Value → Heap → Prop) : Prop :=
  NewH (H.push (.cells #[.int .u64 w_0, .int .i64 w_1, .int .i64 w_2, .slice w_3A w_3n w_3c, .slice w_4A w_4n w_4c, .slice w_5A w_5n w_5c, .int .i64 w_6, .slice w_7A w_7n w_7c] 30 (0, 0))) fun H_ =>
  LoopI (σ := (Option Addr × Nat × Nat) × Int) (fun κ => κ ((none, 0, 0), 0) H_) fun s z H_2 next =>
  cond (decide (s.2 < ((holdersn : Nat) : Int))) (∃ a : Addr, holdersA = some a ∧ 0 ≤ s.2 ∧ s.2 < ((holdersn : Nat) : Int) ∧ ∃ x : Int, cellH H_2 (a.add (Int.toNat s.2)) = some (.int .i64 x) ∧ ∃ (xA : Option Addr) (xn xc : Nat), cellH H_2 (((Addr.mk H.size 0 none)).add 3) = some (.slice xA xn xc) ∧ CallH P N.juntoref17_Is [.slice xA xn xc, .int .i64 x] H_2 fun v H_3 =>
  ∃ r : Bool, v = .bool r ∧ cond (!r) (∃ a2 : Addr, sharesA = some a2 ∧ 0 ≤ s.2 ∧ s.2 < ((sharesn : Nat) : Int) ∧ ∃ x2 : Int, cellH H_3 (a2.add (Int.toNat s.2)) = some (.int .u64 x2) ∧ NewH (H_3.push (.cells #[.int .u64 (IntKind.u64.wrap x), .int .u64 x2] 71 (0, 0))) fun H_4 =>
  AppendV 71 2 16 [.int .u64 0, .int .u64 0] H_4 s.1.1 s.1.2.1 s.1.2.2 (some (Addr.mk H_3.size 0 none)) 1 fun vA vn vc H_5 =>
  next ((vA, vn, vc), IntKind.i64.wrap (s.2 + 1)) H_5)
   (next ((s.1.1, s.1.2.1, s.1.2.2), IntKind.i64.wrap (s.2 + 1)) H_3))
   (∃ x3 : Int, cellH H_2 (Addr.mk H.size 0 none) = some (.int .u64 x3) ∧ CallH P N.juntoref04_Line [.int .u64 x3, .int .i64 d, .slice s.1.1 s.1.2.1 s.1.2.2] H_2 fun v3 H_6 =>
  ∃ (r0A : Option Addr) (r0n r0c : Nat), ∃ r1 : Bool, v3 = .tuple #[.slice r0A r0n r0c, .bool r1] ∧ R (.tuple #[.slice r0A r0n r0c, .bool r1]) H_6)
theorem juntoref20_Line.ok (w_0 : Int) (w_1 : Int) (w_2 : Int) (w_3A : Option Addr) (w_3n w_3c : Nat) (w_4A : Option Addr) (w_4n w_4c : Nat) (w_5A : Option Addr) (w_5n w_5c : Nat) (w_6 : Int) (w_7A : Option Addr) (w_7n w_7c : Nat) (holdersA : Option Addr) (holdersn holdersc : Nat) (d : Int) (sharesA : Option Addr) (sharesn sharesc : Nat) (H : Heap) (R : Value → Heap → Prop) (h : juntoref20_Line.W w_0 w_1 w_2 w_3A w_3n w_3c w_4A w_4n w_4c w_5A w_5n w_5c w_6 w_7A w_7n w_7c holdersA holdersn holdersc d sharesA sharesn sharesc H R) : CallH P N.juntoref20_Line ([.agg #[.int .u64 w_0, .int .i64 w_1, .int .i64 w_2, .slice w_3A w_3n w_3c, .slice w_4A w_4n w_4c, .slice w_5A w_5n w_5c, .int .i64 w_6, .slice w_7A w_7n w_7c], .slice holdersA holdersn holdersc, .int .i64 d, .slice sharesA sharesn sharesc] : List Value) H R := by
  have e : juntoref20_Line.W w_0 w_1 w_2 w_3A w_3n w_3c w_4A w_4n w_4c w_5A w_5n w_5c w_6 w_7A w_7n w_7c holdersA holdersn holdersc d sharesA sharesn sharesc H R = sxFn P T Sh.R nf juntoref20_Line.A Try.f8.results.toList (bodyOf Try.f8) (([(.agg #[.int .u64 w_0, .int .i64 w_1, .int .i64 w_2, .slice w_3A w_3n w_3c, .slice w_4A w_4n w_4c, .slice w_5A w_5n w_5c, .int .i64 w_6, .slice w_7A w_7n w_7c] : Value), (.slice holdersA holdersn holdersc : Value), (.int .i64 d : Value), (.slice sharesA sharesn sharesc : Value)] : List Value) ++ List.replicate (44 - ([(.agg #[.int .u64 w_0, .int .i64 w_1, .int .i64 w_2, .slice w_3A w_3n w_3c, .slice w_4A w_4n w_4c, .slice w_5A w_5n w_5c, .int .i64 w_6, .slice w_7A w_7n w_7c] : Value), (.slice holdersA holdersn holdersc : Value), (.int .i64 d : Value), (.slice sharesA sharesn sharesc : Value)] : List Value).length) undef) H R := by kernel_rfl
  exact call_of_sx fits bodies mixed Try.func8 (c := bodyOf Try.f8) (by kernel_rfl) Try.ntmps8 juntoref20_Line.A (by kernel_rfl) (e.mp h)
end Go.Proofs.Ytajdpkinlnaidaa.Sh
namespace Go.Proofs.Ytajdpkinlnaidaa.Sh
open Go.Sx Go.Lf
def juntoref20_Line.C (w : TWorld) (holders : (List Int)) (d : Int) (shares : (List Nat)) (K : (List Nat) → Bool → Prop) : Prop :=
  ∀ (Z : Nat → Prop) (H : Heap), ∀ (wv : Int), wv = (w.Setup.P : Int) → ∀ (wA : Option Addr) (wn wc : Nat), wn = w.Corrupted.length → SlF i64L Z H wA wc w.Corrupted → ∀ (wA2 : Option Addr) (wn2 wc2 : Nat), wn2 = w.Acts.length → SlF TAct.L Z H wA2 wc2 w.Acts → ∀ (wA3 : Option Addr) (wn3 wc3 : Nat), wn3 = w.Tapes.length → SlF (slL u64L) Z H wA3 wc3 w.Tapes → ∀ (wA4 : Option Addr) (wn4 wc4 : Nat), wn4 = w.Sent.length → SlF TSent.L Z H wA4 wc4 w.Sent → ∀ (holdersA : Option Addr) (holdersn holdersc : Nat), holdersn = holders.length → SlF i64L Z H holdersA holdersc holders → ∀ (sharesA : Option Addr) (sharesn sharesc : Nat), sharesn = shares.length → SlF u64L Z H sharesA sharesc shares → ∀ KK : Value → Heap → Prop,
    (∀ (Z' : Nat → Prop) (H' : Heap), Ext H H' → Old Z H Z' → ∀ (r0 : (List Nat)), ∀ (Y0 : Nat → Prop), (∀ i, Y0 i → H.size ≤ i ∧ ¬ Z' i) → ∀ (Ar0_0 : Option Addr) (nr0_0 cr0_0 : Nat), nr0_0 = r0.length → SlO (rdM u64L) 22 Z' Y0 H' Ar0_0 cr0_0 r0 → ∀ (r1 : Bool), K r0 r1 → KK (.tuple #[.slice Ar0_0 nr0_0 cr0_0, .bool r1]) H') →
    CallH P N.juntoref20_Line [.agg #[.int .u64 wv, .int .i64 w.Setup.N, .int .i64 w.Setup.T_, .slice wA wn wc, .slice wA2 wn2 wc2, .slice wA3 wn3 wc3, .int .i64 w.Round, .slice wA4 wn4 wc4], .slice holdersA holdersn holdersc, .int .i64 d, .slice sharesA sharesn sharesc] H KK
def juntoref20_Line.Q (w : TWorld) (holders : (List Int)) (d : Int) (shares : (List Nat)) (K : (List Nat) → Bool → Prop) : Prop :=
  LoopQ (τ := List TPoint × Int) (([] : List TPoint), 0) fun t nextQ =>
  cond (decide (t.2 < ((holders.length : Nat) : Int))) (0 ≤ t.2 ∧ ∃ x : Int, holders[Int.toNat t.2]? = some x ∧ juntoref17_Is.C w.Corrupted x (fun (x2 : Bool) =>
  cond (!x2) (0 ≤ t.2 ∧ ∃ x3 : Nat, shares[Int.toNat t.2]? = some x3 ∧ AppOk 16 (t.1 ++ ([(⟨(IntKind.u64.wrap x).toNat, x3⟩ : TPoint)] : List TPoint)).length ∧ nextQ ((t.1 ++ ([(⟨(IntKind.u64.wrap x).toNat, x3⟩ : TPoint)] : List TPoint)), IntKind.i64.wrap (t.2 + 1)))
   (nextQ (t.1, IntKind.i64.wrap (t.2 + 1)))))
   (juntoref04_Line.C w.Setup.P d t.1 (fun (r : (List Nat)) (r2 : Bool) =>
  K r r2))
theorem juntoref20_Line.q {w : TWorld} {holders : (List Int)} {d : Int} {shares : (List Nat)} {K : (List Nat) → Bool → Prop} (q : juntoref20_Line.Q w holders d shares K) : juntoref20_Line.C w holders d shares K := by
  intro Z H wv he wA wn wc hn f wA2 wn2 wc2 hn2 f2 wA3 wn3 wc3 hn3 f3 wA4 wn4 wc4 hn4 f4 holdersA holdersn holdersc hn5 f5 sharesA sharesn sharesc hn6 f6 KK hk
  cases he
  cases hn
  cases hn2
  cases hn3
  cases hn4
  cases hn5
  cases hn6
  apply juntoref20_Line.ok
  unfold juntoref20_Line.W
  unfold juntoref20_Line.Q at q
  obtain ⟨σ, hz, hσ⟩ := tags Z
  have hs : Stp ([1, 2, 3] : List Nat) σ H σ H := Stp.refl _ _ _
  replace f := f.wide hz
  replace f2 := f2.wide hz
  replace f3 := f3.wide hz
  replace f4 := f4.wide hz
  replace f5 := f5.wide hz
  replace f6 := f6.wide hz
  clear hz
  refine NewH.mk fun H_ e => ?_
  obtain ⟨xσ, st, b⟩ := BoxF.new σ 0 e
  have f7 := SlO.nil (rdM TPoint.L) 71 (Zt xσ) (Yt xσ 1) H_
  refine LoopI.ofQ q (fun t_ s_ hp_ => ∃ (σ_ : Nat → Nat) (A0_ : Option Addr) (n0_ c0_ : Nat), Stp [1, 2] xσ H_ σ_ hp_ ∧ ((A0_, n0_, c0_), t_.2) = s_ ∧ n0_ = t_.1.length ∧ SlO (rdM TPoint.L) 71 (Zt σ_) (Yt σ_ 1) hp_ A0_ c0_ t_.1) (fun h k => h _ _ k) ⟨_, _, _, _, Stp.refl _ _ _, rfl, rfl, f7⟩ ?_
  rintro t _ _ H_2 next nextQ ⟨xσ2, A, n, c, st2, rfl, rfl, f8⟩ q hnext
  try dsimp only at q ⊢
  have sl0 := st2
  refine condI (fun q => ?_) (fun q => ?_) q
  · obtain ⟨h0, x, hx, q⟩ := q
    replace f5 := f5.step (st.then st2)
    obtain ⟨a, ha, hi⟩ := f5.addr h0 hx rfl
    refine ⟨a, ha, hi.1, hi.2, ?_⟩
    have hc := f5.ldi ha h0 hx
    refine ⟨_, hc.val, ?_⟩
    replace b := b.step st2
    refine ⟨_, _, _, b.cell 3 rfl, ?_⟩
    replace f := f.step (st.then st2)
    refine q (Zt xσ2) H_2 _ _ _ rfl f _ (fun Z2 H_3 hE hO x2 q => ?_)
    obtain ⟨xσ3, st3⟩ := call0 hE xσ2
    refine ⟨_, rfl, ?_⟩
    refine condI (fun q => ?_) (fun q => ?_) q
    · obtain ⟨h02, x3, hx2, q⟩ := q
      replace f6 := f6.step (st.then (st2.then st3))
      obtain ⟨a2, ha2, hi2⟩ := f6.addr h02 hx2 rfl
      refine ⟨a2, ha2, hi2.1, hi2.2, ?_⟩
      have hc2 := f6.ldu ha2 h02 hx2
      refine ⟨_, hc2.val, ?_⟩
      refine NewH.mk fun H_4 e2 => ?_
      obtain ⟨xσ4, st4, f9⟩ := SlO.lit (E := TPoint.L) xσ3 2 (xs := [(⟨(IntKind.u64.wrap x).toNat, x3⟩ : TPoint)]) (l := [[_, _]]) e2 rfl (.cons (by show (_ : List Value) = _; simp only [← natEq (nnw _)]) .nil) (show (1 : Nat) ≤ 17592186044416 by decide)
      obtain ⟨xσ6, st6, f9⟩ := SlO.freeze f9
      obtain ⟨q2, q⟩ := q
      replace f8 := f8.step (st3.then (st4.then st6))
      refine SlO.appF f8 f9 rfl rfl q2.l q2.r rfl rfl (fun A2 c2 H_5 xσ5 st5 f8_ => ?_)
      replace f8 := f8_
      have f10 := f8; clear f8
      replace sl0 := sl0.trans (st3.then (st4.then (st6.then st5)))
      exact hnext ((t.1 ++ ([(⟨(IntKind.u64.wrap x).toNat, x3⟩ : TPoint)] : List TPoint)), IntKind.i64.wrap (t.2 + 1)) _ _ ⟨_, _, _, _, sl0, rfl, rfl, f10⟩ q
    · replace sl0 := sl0.trans st3
      replace f8 := f8.step st3
      exact hnext (t.1, IntKind.i64.wrap (t.2 + 1)) _ _ ⟨_, _, _, _, sl0, rfl, rfl, f8⟩ q
  · replace b := b.step st2
    refine ⟨_, b.cell0, ?_⟩
    refine q (fun i => xσ2 i = 0 ∨ xσ2 i = 1) H_2 _ rfl _ _ _ rfl (f8.read (fun i h => .inl h) (fun i h => .inr (h))) _ (fun Z3 H_6 hE2 hO2 r Y hY A3 n2 c3 hn7 f11 r2 q => ?_)
    obtain ⟨xσ7, st7, fy⟩ := callB1 hE2 hO2 xσ2 3 hY
    replace f11 := (SlO.anyZ (Z' := Zt xσ7) u64_flatL f11).keep (Fr.refl _ _) fy
    cases hn7
    refine ⟨_, _, _, _, rfl, ?_⟩
    replace hs := hs.trans (st.then (st2.then st7))
    exact hk (Zt xσ7) _ (hs.ext hσ) (hs.old hσ) _ (Yt xσ7 3) (hs.fresh hσ) _ _ _ rfl f11 _ q
end Go.Proofs.Ytajdpkinlnaidaa.Sh
end
section
set_option linter.unusedVariables false
namespace Go.Proofs.Ytajdpkinlnaidaa.Pl
open Go.Sx Go.Lf Go.Proofs.Ytajdpkinlnaidaa.Sh Go.Proofs.Ytajdpkinlnaidaa.Sp
theorem actsC_of {n : Int} {c : List Int} : ∀ (l seen : List TAct), ((seen ++ l).map key3).Nodup → (∀ a ∈ l, ¬ badAct n c a ∧ a.Data.length ≤ 65536) → actsC n c seen l = 0
  | [], _, _, _ => rfl
  | a :: l, seen, hn, h => by
    have h0 : actC n c seen a = 0 := by
      obtain ⟨h1, h2⟩ := h a (by simp)
      rw [actC, if_neg h1, if_neg (by omega), if_neg]
      rintro ⟨b, hb, e⟩
      rw [List.map_append, List.nodup_append] at hn
      exact hn.2.2 _ (List.mem_map.2 ⟨b, hb, rfl⟩) _ (by simp) e
    simp only [actsC]
    rw [if_pos h0]
    exact actsC_of l _ (by simpa using hn) fun b hb => h b (by simp [hb])
theorem checkW_of {w : TWorld} (h : WOk w) (ha : w.Acts.length ≤ 65536) : checkW w = 0 := by
  have hc : corC w.Setup w.Corrupted = 0 := by rw [corC, if_pos ⟨h.set, h.cor, h.ris⟩]
  have h0 := h.r0; have h1 := h.r1; have h2 := h.tap
  unfold checkW
  rw [if_pos hc, if_neg (by omega), if_neg (by omega)]
  exact actsC_of _ _ (by simpa using h.key) h.act
theorem chkC_of {w : TWorld} {hs : List Int} {d : Nat} {s : TSecret} {f : List Nat} (h : SecOk w hs d s f) : chkC w hs d s = 0 := by
  unfold chkC
  rw [if_pos h.to, if_pos ⟨h.len, below_of h.lt⟩, if_pos ⟨f, h.line⟩]
theorem chkL_of {w : TWorld} {hs : List Int} {d : Nat} : ∀ {l : List TSecret}, (∀ s ∈ l, ∃ f, SecOk w hs d s f) → chkL w hs d l = 0
  | [], _ => rfl
  | s :: l, h => by
    obtain ⟨f, hf⟩ := h s (by simp)
    simp only [chkL]
    rw [if_pos (chkC_of hf)]
    exact chkL_of fun x hx => h x (by simp [hx])
theorem allC_of {w : TWorld} {hs : List Int} {d n tt : Nat} {l : List TSecret} {F : Nat → List Nat} (h : AllOk w hs d n tt l F) (ha : w.Acts.length ≤ 65536) : allC w hs d l = 0 := by
  have h1 := h.len; have h2 := h.et; have h3 := h.ded; have h4 := h.lel; have h5 := h.rnd
  have hc := checkW_of h.wok ha
  have hl : chkL w hs ((d : Nat) : Int).toNat l = 0 := chkL_of fun s hs0 => by
    obtain ⟨i, hi⟩ := List.mem_iff_getElem?.1 hs0
    exact ⟨_, h.sec i s hi⟩
  unfold allC
  rw [if_neg (by rw [hc]; simp), if_neg (by simp only [Classical.not_not]; exact ⟨h.ris, by omega⟩), if_neg (by omega), if_neg (by omega), if_neg (by rw [hl]; simp), if_neg (by omega)]
theorem line_uniq {w : TWorld} {hs : List Int} {d tt : Nat} {sh : List Nat} (hw : WOk w) (ht : w.Setup.T_ = tt) (hr : risA w.Setup.N 0 hs = true) (hl : 4 * tt + 1 ≤ hs.length) (hd : d ≤ 2 * tt) (hsh : ∀ y ∈ sh, y < w.Setup.P) {f g : List Nat} (hf : LineP w hs d sh f) (hg : LineP w hs d sh g) : f = g := by
  have h1 := hon_len (c := w.Corrupted) hr
  have h2 := hw.cor
  exact Dec.uniq hw.set.1 (hon_pts hw.set hr hsh) (by rw [ptsL_len]; omega) hf hg
theorem juntoref17_Is_c {l : List Int} {x : Int} (hl : l.length < 4611686018427387904) {K : Bool → Prop} (k : K (decide (x ∈ l))) : juntoref17_Is.C l x K := by
  refine juntoref17_Is.q ?_
  refine LoopQ.range l.length (fun k => ∀ j, j < k → l[j]? ≠ some x) (fun j hj => by omega) hl ?_ ?_
  · intro i next hk hI hn
    obtain ⟨y, hy⟩ := get_some hk
    refine ctd (by omega) ⟨by omega, y, hy, cnE (fun h => ?_) (fun h => hn fun j hj => ?_)⟩
    · rw [decide_eq_true (by rw [← h]; exact mem_get hy)] at k; exact k
    · rcases Nat.lt_or_ge j i with h' | h'
      · exact hI j h'
      · obtain rfl : j = i := by omega
        rw [hy]; exact fun e => h (by cases e; rfl)
  · intro next hI
    refine cfd (by omega) ?_
    rw [decide_eq_false (fun hm => by obtain ⟨j, hj⟩ := List.mem_iff_getElem?.1 hm; exact hI j (lt_get hj) hj)] at k
    exact k
theorem juntoref17_SameInts_c {x y : List Int} (hl : x.length < 4611686018427387904) {K : Bool → Prop} (k : K (decide (x = y))) : juntoref17_SameInts.C x y K := by
  apply juntoref17_SameInts.q
  unfold juntoref17_SameInts.Q
  by_cases hlen : x.length = y.length
  · refine cf (bne_f (by omega)) ?_
    refine LoopQ.range x.length (fun k => ∀ j, j < k → x[j]? = y[j]?) (fun j hj => by omega) hl ?_ ?_
    · intro n next hk hI hn
      obtain ⟨u, hu⟩ := get_some hk
      obtain ⟨v, hv⟩ := get_some (show n < y.length by omega)
      refine ctd (by omega) ⟨by omega, u, hu, by omega, v, hv, cnN (fun h => ?_) (fun h => hn fun j hj => ?_)⟩
      · rw [decide_eq_false (fun e => h (by rw [e, hv] at hu; cases hu; rfl))] at k; exact k
      · rcases Nat.lt_or_ge j n with h' | h'
        · exact hI j h'
        · obtain rfl : j = n := by omega
          rw [hu, hv, h]
    · intro next hI
      refine cfd (by omega) ?_
      rw [decide_eq_true] at k
      · exact k
      · apply List.ext_getElem?
        intro j
        rcases Nat.lt_or_ge j x.length with h' | h'
        · exact hI j h'
        · rw [List.getElem?_eq_none h', List.getElem?_eq_none (by omega)]
  · refine ct (bne_t (by omega)) ?_
    rw [decide_eq_false (fun h => hlen (by rw [h]))] at k; exact k
theorem juntoref04_Line_c {p d : Nat} {l : List TPoint} (hp : isP p) (hl : Pts p l) (hll : l.length ≤ 64) (hd : d + 1 ≤ l.length) {K : List Nat → Bool → Prop} (k1 : ∀ f, Dec p d 0 l f → K f true) (k0 : (∀ f, ¬ Dec p d 0 l f) → ∀ g, K g false) : juntoref04_Line.C p d l K := by
  have hp3 := hp.1
  haveI : NeZero p := ⟨by omega⟩
  refine juntoref04_Line.q (juntoref02_Through_c hp hl (by omega) fun f hf => ?_)
  obtain ⟨f1, f2, f3, f4⟩ := id hf
  rw [addw1 (by omega)]
  by_cases h : f.length ≤ d + 1
  · rw [decide_eq_true (by omega)]
    exact k1 f (dec0.2 ⟨f1, h, f3, fun q hq => pv_eval (by omega) (hl.1 q hq).2 (f4 q hq)⟩)
  · rw [decide_eq_false (by omega)]
    refine k0 (fun g hg => h ?_) f
    obtain ⟨g1, g2, g3, g4⟩ := dec0.1 hg
    have : Interp p l g := ⟨g1, by omega, g3, fun q hq => eval_pv (g4 q hq)⟩
    rw [hf.uniq hp hl this]; exact g2
theorem juntoref20_Line_c {w : TWorld} {hs : List Int} {d : Nat} {sh : List Nat} (hS : OkS w.Setup) (hc : (w.Corrupted.length : Int) ≤ w.Setup.T_) (hr : risA w.Setup.N 0 hs = true) (hn : 4 * w.Setup.T_ + 1 ≤ hs.length) (hd : (d : Int) ≤ 2 * w.Setup.T_) (hsl : hs.length ≤ sh.length) (hsh : ∀ y ∈ sh, y < w.Setup.P)
    {K : List Nat → Bool → Prop} (k1 : ∀ f, LineP w hs d sh f → K f true) (k0 : (∀ f, ¬ LineP w hs d sh f) → ∀ g, K g false) : juntoref20_Line.C w hs d sh K := by
  have h13 := hs13 hS.2.2.1 hr
  have hl := hon_len (c := w.Corrupted) hr
  have hle := hon_le w.Corrupted hs
  refine juntoref20_Line.q (hon_loop (A := fun P => juntoref04_Line.C w.Setup.P d P fun r r2 => K r r2) (is := fun x K => juntoref17_Is.C w.Corrupted x K) hS.2.2.1 hr hsl (fun x K hk => juntoref17_Is_c (by have := hS.2.2.2.2.1; have := hS.2.2.1; omega) hk) ?_)
  exact juntoref04_Line_c hS.1 (hon_pts hS hr hsh) (by rw [ptsL_len]; omega) (by rw [ptsL_len]; omega) k1 k0
theorem inc_eq : ∀ (A B : List Nat), A.Pairwise (· < ·) → B.Pairwise (· < ·) → (∀ x, x ∈ A ↔ x ∈ B) → A = B
  | [], [], _, _, _ => rfl
  | [], b :: B, _, _, h => by have := (h b).2 (by simp); simp at this
  | a :: A, [], _, _, h => by have := (h a).1 (by simp); simp at this
  | a :: A, b :: B, hA, hB, h => by
    rw [List.pairwise_cons] at hA hB
    have e : a = b := by
      have h1 := (h a).1 (by simp)
      have h2 := (h b).2 (by simp)
      rcases List.mem_cons.1 h1 with h1 | h1
      · exact h1
      · rcases List.mem_cons.1 h2 with h2 | h2
        · exact h2.symm
        · have := hB.1 a h1; have := hA.1 b h2; omega
    subst e
    congr 1
    refine inc_eq A B hA.2 hB.2 fun x => ?_
    constructor
    · intro hx
      rcases List.mem_cons.1 ((h x).1 (by simp [hx])) with e | e
      · subst e; have := hA.1 _ hx; omega
      · exact e
    · intro hx
      rcases List.mem_cons.1 ((h x).2 (by simp [hx])) with e | e
      · subst e; have := hB.1 _ hx; omega
      · exact e
theorem ris_pair {n : Int} : ∀ {l : List Int} {a : Int}, 0 ≤ a → risA n a l = true → (l.map Int.toNat).Pairwise (· < ·)
  | [], _, _, _ => by simp
  | x :: l, a, ha, h => by
    have h0 := h
    simp only [risA, Bool.and_eq_true, decide_eq_true_eq] at h
    rw [List.map_cons, List.pairwise_cons]
    refine ⟨fun y hy => ?_, ris_pair (by omega) h.2⟩
    obtain ⟨z, hz, rfl⟩ := List.mem_map.1 hy
    have := ris_mem h.2 z hz; omega
theorem recips {n : Nat} {s : TSecret} (h : risA n 0 s.To = true) : ((List.range (n + 1)).filter fun q => asked q s) = if s.To = [] then [0] else s.To.map Int.toNat := by
  have hs : ((List.range (n + 1)).filter fun q => asked q s).Pairwise (· < ·) := List.pairwise_lt_range.filter _
  by_cases h0 : s.To = []
  · rw [if_pos h0]
    refine inc_eq _ _ hs (by simp) fun x => ?_
    rw [List.mem_filter, List.mem_range, List.mem_singleton]
    unfold asked
    rw [h0]
    by_cases hx : x = 0
    · subst hx; simp
    · rw [if_neg hx]; simp [hx]
  · rw [if_neg h0]
    refine inc_eq _ _ hs (ris_pair (by decide) h) fun x => ?_
    rw [List.mem_filter, List.mem_range]
    unfold asked
    by_cases hx : x = 0
    · subst hx
      rw [if_pos rfl]
      constructor
      · intro hh; simp at hh; exact absurd hh h0
      · intro hm
        obtain ⟨z, hz, e⟩ := List.mem_map.1 hm
        have := ris_mem h z hz; omega
    · rw [if_neg hx]
      constructor
      · rintro ⟨_, h2⟩
        exact List.mem_map.2 ⟨x, by simpa using h2, by omega⟩
      · intro hm
        obtain ⟨z, hz, e⟩ := List.mem_map.1 hm
        have := ris_mem h z hz
        have ez : z = (x : Int) := by omega
        subst ez
        exact ⟨by omega, by simpa using hz⟩
end Go.Proofs.Ytajdpkinlnaidaa.Pl
end
section
set_option linter.unusedVariables false
set_option linter.unusedSimpArgs false
namespace Go.Proofs.Ytajdpkinlnaidaa.Pl
open Go.Sx Go.Lf Go.Proofs.Ytajdpkinlnaidaa.Sh Go.Proofs.Ytajdpkinlnaidaa.Sp
theorem isP11 : isP 11 := ⟨by decide, by decide, fun d h2 hd => by
  have : d = 2 ∨ d = 3 := by
    rcases Nat.lt_or_ge d 4 with h | h
    · omega
    · have := Nat.mul_le_mul h h; omega
  rcases this with rfl | rfl <;> decide⟩
end Go.Proofs.Ytajdpkinlnaidaa.Pl
end
section
set_option linter.unusedVariables false
set_option linter.unusedSimpArgs false
set_option maxRecDepth 100000
set_option maxHeartbeats 8000000
namespace Go.Proofs.Ytajdpkinlnaidaa.Sh
open Go.Sx
def juntolaw20_alive.A : Ann where
  loops := fun i => match i with
    | _ => []
  plans := fun i => match i with
    | _ => .stop
def juntolaw20_alive.W  (H : Heap) (R : Value → Heap → Prop) : Prop :=
  NewH (H.push (.cells #[.int .i64 4] 3 (0, 0))) fun H_ =>
  0 ≤ (5 : Int) ∧ (5 : Int) ≤ (5 : Int) ∧ (5 : Int) * 24 ≤ 2 ^ 48 ∧ (5 : Int) < 2 ^ 62 ∧ NewH (H_.push (.cells (repl 5 [.slice none 0 0]).toArray 37 (0, 0))) fun H_2 =>
  NewH (H_2.push (.cells #[.int .u64 0] 22 (0, 0))) fun H_3 =>
  NewH (H_3.push (.cells #[.int .i64 1, .int .i64 4, .int .i64 0, .bool false, .slice (some (Addr.mk H_2.size 0 none)) 1 1] 67 (0, 0))) fun H_4 =>
  NewH (H_4.push (.cells #[.int .u64 0, .int .i64 0, .int .i64 0, .slice none 0 0, .slice none 0 0, .slice none 0 0, .int .i64 0, .slice none 0 0] 30 (0, 0))) fun H_5 =>
  MayWrite H_5 (Addr.mk H_4.size 0 none) 8 ∧ NewH (setH (setH (setH (setH (setH (setH (setH (setH H_5 (Addr.mk H_4.size 0 none) (.int .u64 11)) (((Addr.mk H_4.size 0 none)).add 1) (.int .i64 5)) (((Addr.mk H_4.size 0 none)).add 2) (.int .i64 1)) (((Addr.mk H_4.size 0 none)).add 3) (.slice (some (Addr.mk H.size 0 none)) 1 1)) (((Addr.mk H_4.size 0 none)).add 4) (.slice (some (Addr.mk H_3.size 0 none)) 1 1)) (((Addr.mk H_4.size 0 none)).add 5) (.slice (some (Addr.mk H_.size 0 none)) 5 5)) (((Addr.mk H_4.size 0 none)).add 6) (.int .i64 0)) (((Addr.mk H_4.size 0 none)).add 7) (.slice none 0 0)) fun H_6 =>
  ∃ x0 : Int, ∃ x1 : Int, ∃ x2 : Int, ∃ (x3A : Option Addr) (x3n x3c : Nat), ∃ (x4A : Option Addr) (x4n x4c : Nat), ∃ (x5A : Option Addr) (x5n x5c : Nat), ∃ x6 : Int, ∃ (x7A : Option Addr) (x7n x7c : Nat), cellH H_6 (Addr.mk H_4.size 0 none) = some (.int .u64 x0) ∧ cellH H_6 (((Addr.mk H_4.size 0 none)).add 1) = some (.int .i64 x1) ∧ cellH H_6 (((Addr.mk H_4.size 0 none)).add 2) = some (.int .i64 x2) ∧ cellH H_6 (((Addr.mk H_4.size 0 none)).add 3) = some (.slice x3A x3n x3c) ∧ cellH H_6 (((Addr.mk H_4.size 0 none)).add 4) = some (.slice x4A x4n x4c) ∧ cellH H_6 (((Addr.mk H_4.size 0 none)).add 5) = some (.slice x5A x5n x5c) ∧ cellH H_6 (((Addr.mk H_4.size 0 none)).add 6) = some (.int .i64 x6) ∧ cellH H_6 (((Addr.mk H_4.size 0 none)).add 7) = some (.slice x7A x7n x7c) ∧ NewH (H_6.push (.cells #[.int .i64 1, .int .i64 2, .int .i64 3, .int .i64 4, .int .i64 5] 3 (0, 0))) fun H_7 =>
  NewH (H_7.push (.cells #[.int .u64 7, .int .u64 10, .int .u64 2, .int .u64 5, .int .u64 8] 22 (0, 0))) fun H_8 =>
  NewH (H_8.push (.cells #[.slice none 0 0, .slice (some (Addr.mk H_7.size 0 none)) 5 5] 39 (0, 0))) fun H_9 =>
  CallH P N.open_All [.agg #[.int .u64 x0, .int .i64 x1, .int .i64 x2, .slice x3A x3n x3c, .slice x4A x4n x4c, .slice x5A x5n x5c, .int .i64 x6, .slice x7A x7n x7c], .slice (some (Addr.mk H_6.size 0 none)) 5 5, .int .i64 1, .slice (some (Addr.mk H_8.size 0 none)) 1 1] H_9 fun v H_10 =>
  ∃ (r0A : Option Addr) (r0n r0c : Nat), ∃ r10 : Int, ∃ r11 : Int, ∃ r12 : Int, ∃ (r13A : Option Addr) (r13n r13c : Nat), ∃ (r14A : Option Addr) (r14n r14c : Nat), ∃ (r15A : Option Addr) (r15n r15c : Nat), ∃ r16 : Int, ∃ (r17A : Option Addr) (r17n r17c : Nat), ∃ r2 : Int, v = .tuple #[.slice r0A r0n r0c, .agg #[.int .u64 r10, .int .i64 r11, .int .i64 r12, .slice r13A r13n r13c, .slice r14A r14n r14c, .slice r15A r15n r15c, .int .i64 r16, .slice r17A r17n r17c], .int .i64 r2] ∧ NewH (H_10.push (.cells #[.int .u64 0, .int .i64 0, .int .i64 0, .slice none 0 0, .slice none 0 0, .slice none 0 0, .int .i64 0, .slice none 0 0] 30 (0, 0))) fun H_11 =>
  MayWrite H_11 (Addr.mk H_10.size 0 none) 8 ∧ NewH (setH (setH (setH (setH (setH (setH (setH (setH H_11 (Addr.mk H_10.size 0 none) (.int .u64 r10)) (((Addr.mk H_10.size 0 none)).add 1) (.int .i64 r11)) (((Addr.mk H_10.size 0 none)).add 2) (.int .i64 r12)) (((Addr.mk H_10.size 0 none)).add 3) (.slice r13A r13n r13c)) (((Addr.mk H_10.size 0 none)).add 4) (.slice r14A r14n r14c)) (((Addr.mk H_10.size 0 none)).add 5) (.slice r15A r15n r15c)) (((Addr.mk H_10.size 0 none)).add 6) (.int .i64 r16)) (((Addr.mk H_10.size 0 none)).add 7) (.slice r17A r17n r17c)) fun H_12 =>
  cond (r2 == 0) (∃ x : Int, cellH H_12 (((Addr.mk H_10.size 0 none)).add 6) = some (.int .i64 x) ∧ cond (x == 1) (cond (((r0n : Nat) : Int) == 1) (∃ a : Addr, r0A = some a ∧ 0 ≤ (0 : Int) ∧ (0 : Int) < ((r0n : Nat) : Int) ∧ ∃ (xA : Option Addr) (xn xc : Nat), cellH H_12 (a.add 0) = some (.slice xA xn xc) ∧ cond (((xn : Nat) : Int) == 1) (∃ a2 : Addr, r0A = some a2 ∧ 0 ≤ (0 : Int) ∧ (0 : Int) < ((r0n : Nat) : Int) ∧ ∃ (xA2 : Option Addr) (xn2 xc2 : Nat), cellH H_12 (a2.add 0) = some (.slice xA2 xn2 xc2) ∧ ∃ a3 : Addr, xA2 = some a3 ∧ 0 ≤ (0 : Int) ∧ (0 : Int) < ((xn2 : Nat) : Int) ∧ ∃ x3 : Int, cellH H_12 (a3.add (0 * 3)) = some (.int .u64 x3) ∧ cond (x3 == 4) (∃ a4 : Addr, r0A = some a4 ∧ 0 ≤ (0 : Int) ∧ (0 : Int) < ((r0n : Nat) : Int) ∧ ∃ (xA3 : Option Addr) (xn3 xc3 : Nat), cellH H_12 (a4.add 0) = some (.slice xA3 xn3 xc3) ∧ ∃ a5 : Addr, xA3 = some a5 ∧ 0 ≤ (0 : Int) ∧ (0 : Int) < ((xn3 : Nat) : Int) ∧ ∃ (xA4 : Option Addr) (xn4 xc4 : Nat), cellH H_12 ((a5.add (0 * 3)).add 1) = some (.slice xA4 xn4 xc4) ∧ NewH (H_12.push (.cells #[.int .u64 4, .int .u64 3] 22 (0, 0))) fun H_13 =>
  CallH P N.juntoref01_Same [.slice xA4 xn4 xc4, .slice (some (Addr.mk H_12.size 0 none)) 2 2] H_13 fun v2 H_14 =>
  ∃ r : Bool, v2 = .bool r ∧ cond r (∃ a6 : Addr, r0A = some a6 ∧ 0 ≤ (0 : Int) ∧ (0 : Int) < ((r0n : Nat) : Int) ∧ ∃ (xA5 : Option Addr) (xn5 xc5 : Nat), cellH H_14 (a6.add 0) = some (.slice xA5 xn5 xc5) ∧ ∃ a7 : Addr, xA5 = some a7 ∧ 0 ≤ (0 : Int) ∧ (0 : Int) < ((xn5 : Nat) : Int) ∧ ∃ (xA6 : Option Addr) (xn6 xc6 : Nat), cellH H_14 ((a7.add (0 * 3)).add 2) = some (.slice xA6 xn6 xc6) ∧ NewH (H_14.push (.cells #[.int .i64 4] 3 (0, 0))) fun H_15 =>
  CallH P N.juntoref17_SameInts [.slice xA6 xn6 xc6, .slice (some (Addr.mk H_14.size 0 none)) 1 1] H_15 fun v3 H_16 =>
  ∃ r3 : Bool, v3 = .bool r3 ∧ R (.bool r3) H_16) (R (.bool false) H_14)) (R (.bool false) H_12)) (R (.bool false) H_12)) (R (.bool false) H_12)) (R (.bool false) H_12)) (R (.bool false) H_12)
theorem juntolaw20_alive.ok  (H : Heap) (R : Value → Heap → Prop) (h : juntolaw20_alive.W  H R) : CallH P N.juntolaw20_alive ([] : List Value) H R := by
  have e : juntolaw20_alive.W  H R = sxFn P T Sh.R nf juntolaw20_alive.A Try.f7.results.toList (bodyOf Try.f7) (([] : List Value) ++ List.replicate (70 - ([] : List Value).length) undef) H R := by kernel_rfl
  exact call_of_sx fits bodies mixed Try.func7 (c := bodyOf Try.f7) (by kernel_rfl) Try.ntmps7 juntolaw20_alive.A (by kernel_rfl) (e.mp h)
end Go.Proofs.Ytajdpkinlnaidaa.Sh
namespace Go.Proofs.Ytajdpkinlnaidaa.Sh
open Go.Sx Go.Lf
def juntolaw20_alive.C  (K : Bool → Prop) : Prop :=
  ∀ (Z : Nat → Prop) (H : Heap), ∀ KK : Value → Heap → Prop,
    (∀ (Z' : Nat → Prop) (H' : Heap), Ext H H' → Old Z H Z' → ∀ (r0 : Bool), K r0 → KK (.bool r0) H') →
    CallH P N.juntolaw20_alive [] H KK
def juntolaw20_alive.Q  (K : Bool → Prop) : Prop :=
  MakeOk 24 (5 : Int) ∧ open_All.C (⟨(⟨11, 5, 1⟩ : TSetup), [4], [(⟨1, 4, 0, false, [0]⟩ : TAct)], (List.replicate 5 []), 0, []⟩ : TWorld) ([1, 2, 3, 4, 5]) 1 ([(⟨[], [7, 10, 2, 5, 8]⟩ : TSecret)]) (fun (r : (List (List TOpened))) (r2 : TWorld) (r3 : Int) =>
  cond (r3 == 0) (cond (r2.Round == 1) (cond (((r.length : Nat) : Int) == 1) (0 ≤ (0 : Int) ∧ (0 : Int) < ((r.length : Nat) : Int) ∧ ∃ x : (List TOpened), r[0]? = some x ∧ cond (((x.length : Nat) : Int) == 1) (0 ≤ (0 : Int) ∧ (0 : Int) < ((r.length : Nat) : Int) ∧ ∃ x2 : (List TOpened), r[0]? = some x2 ∧ 0 ≤ (0 : Int) ∧ ∃ x3 : TOpened, x2[0]? = some x3 ∧ cond ((x3.Value : Int) == 4) (0 ≤ (0 : Int) ∧ (0 : Int) < ((r.length : Nat) : Int) ∧ ∃ x4 : (List TOpened), r[0]? = some x4 ∧ 0 ≤ (0 : Int) ∧ ∃ x5 : TOpened, x4[0]? = some x5 ∧ juntoref01_Same.C x5.Poly ([4, 3]) (fun (x6 : Bool) =>
  cond x6 (0 ≤ (0 : Int) ∧ (0 : Int) < ((r.length : Nat) : Int) ∧ ∃ x7 : (List TOpened), r[0]? = some x7 ∧ 0 ≤ (0 : Int) ∧ ∃ x8 : TOpened, x7[0]? = some x8 ∧ juntoref17_SameInts.C x8.Wrong ([4]) (fun (x9 : Bool) =>
  K x9))
   (K false)))
   (K false))
   (K false))
   (K false))
   (K false))
   (K false))
theorem juntolaw20_alive.q  {K : Bool → Prop} (q : juntolaw20_alive.Q  K) : juntolaw20_alive.C  K := by
  intro Z H  KK hk
  apply juntolaw20_alive.ok
  unfold juntolaw20_alive.W
  unfold juntolaw20_alive.Q at q
  obtain ⟨σ, hz, hσ⟩ := tags Z
  have hs : Stp ([1, 2, 3, 4, 5, 6, 7, 8, 9, 10, 11, 12] : List Nat) σ H σ H := Stp.refl _ _ _
  clear hz
  refine NewH.mk fun H_ e => ?_
  obtain ⟨xσ, st, f⟩ := SlO.lit (E := i64L) σ 1 (xs := [4]) (l := [[_]]) e rfl (.cons rfl .nil) (show (1 : Nat) ≤ 17592186044416 by decide)
  obtain ⟨q2, q⟩ := q
  refine ⟨q2.1, Int.le_refl _, q2.w1, q2.w2, NewH.mk fun H_2 e2 => ?_⟩
  obtain ⟨xσ2, st2, f2⟩ := SlO.made (O := (rdM (slL u64L))) xσ 2 e2 (slL_zero _) q2.len
  refine NewH.mk fun H_3 e3 => ?_
  obtain ⟨xσ3, st3, f3⟩ := SlO.lit (E := u64L) xσ2 3 (xs := [0]) (l := [[_]]) e3 rfl (.cons rfl .nil) (show (1 : Nat) ≤ 17592186044416 by decide)
  obtain ⟨xσ4, st4, f3⟩ := SlO.freeze f3
  refine NewH.mk fun H_4 e4 => ?_
  obtain ⟨xσ5, st5, f4⟩ := SlO.lit (E := TAct.L) xσ4 4 (xs := [(⟨1, 4, 0, false, [0]⟩ : TAct)]) (l := [[_, _, _, _, _]]) e4 rfl (.cons (show (TAct.L).rep _ _ (⟨1, 4, 0, false, [0]⟩ : TAct) _ from ⟨_, _, rfl, f3⟩) .nil) (show (1 : Nat) ≤ 17592186044416 by decide)
  refine NewH.mk fun H_5 e5 => ?_
  obtain ⟨xσ6, st6, b⟩ := BoxF.new xσ5 5 e5
  replace f := f.step (st2.then (st3.then (st4.then (st5.then st6))))
  obtain ⟨xσ7, st7, f⟩ := SlO.freeze f
  replace b := b.step st7
  refine ⟨b.mayN 0 8 (show (8 : Nat) ≤ 8 by decide), NewH.mk fun H_6 e6 => ?_⟩
  obtain ⟨st8, b⟩ := b.wr8 (by simp) e6
  simp only [List.take_zero, List.take_succ_cons, List.drop_zero, List.drop_succ_cons, List.drop_nil, List.length_cons, List.length_nil, List.cons_append, List.nil_append, List.append_nil, Nat.zero_add, Nat.reduceAdd] at b
  refine ⟨_, _, _, _, _, _, _, _, _, _, _, _, _, _, _, _, b.cell0, b.cell 1 rfl, b.cell 2 rfl, b.cell 3 rfl, b.cell 4 rfl, b.cell 5 rfl, b.cell 6 rfl, b.cell 7 rfl, ?_⟩
  refine NewH.mk fun H_7 e7 => ?_
  obtain ⟨xσ8, st9, f5⟩ := SlO.lit (E := i64L) xσ7 6 (xs := [1, 2, 3, 4, 5]) (l := [[_], [_], [_], [_], [_]]) e7 rfl (.cons rfl (.cons rfl (.cons rfl (.cons rfl (.cons rfl .nil))))) (show (5 : Nat) ≤ 17592186044416 by decide)
  refine NewH.mk fun H_8 e8 => ?_
  obtain ⟨xσ9, st10, f6⟩ := SlO.lit (E := u64L) xσ8 7 (xs := [7, 10, 2, 5, 8]) (l := [[_], [_], [_], [_], [_]]) e8 rfl (.cons rfl (.cons rfl (.cons rfl (.cons rfl (.cons rfl .nil))))) (show (5 : Nat) ≤ 17592186044416 by decide)
  obtain ⟨xσ10, st11, f6⟩ := SlO.freeze f6
  refine NewH.mk fun H_9 e9 => ?_
  obtain ⟨xσ11, st12, f7⟩ := SlO.lit (E := TSecret.L) xσ10 8 (xs := [(⟨[], [7, 10, 2, 5, 8]⟩ : TSecret)]) (l := [[_, _]]) e9 rfl (.cons (show (TSecret.L).rep _ _ (⟨[], [7, 10, 2, 5, 8]⟩ : TSecret) _ from ⟨_, _, _, _, rfl, (SlF.nil _ _ _ _ _), f6⟩) .nil) (show (1 : Nat) ≤ 17592186044416 by decide)
  replace f4 := f4.step (st6.then (st7.then (st8.then (st9.then (st10.then (st11.then st12))))))
  obtain ⟨xσ12, st13, f4⟩ := SlO.freeze f4
  replace f2 := f2.step (st3.then (st4.then (st5.then (st6.then (st7.then (st8.then (st9.then (st10.then (st11.then (st12.then st13))))))))))
  obtain ⟨xσ13, st14, f2⟩ := SlO.freeze f2
  replace f5 := f5.step (st10.then (st11.then (st12.then (st13.then st14))))
  obtain ⟨xσ14, st15, f5⟩ := SlO.freeze f5
  replace f7 := f7.step (st13.then (st14.then st15))
  obtain ⟨xσ15, st16, f7⟩ := SlO.freeze f7
  replace f := f.step (st8.then (st9.then (st10.then (st11.then (st12.then (st13.then (st14.then (st15.then st16))))))))
  replace f4 := f4.step (st14.then (st15.then st16))
  replace f2 := f2.step (st15.then st16)
  replace f5 := f5.step st16
  refine q (Zt xσ15) H_9 _ rfl _ _ _ rfl f _ _ _ rfl f4 _ _ _ (rl_len _ _) f2 _ _ _ rfl (SlF.nil _ _ _ _ _) _ _ _ rfl f5 _ _ _ rfl f7 _ (fun Z2 H_10 hE hO r Y hY A n c hn f8 r2 v he A2 n2 c2 hn2 f9 A3 n3 c3 hn3 f10 A4 n4 c4 hn4 f11 A5 n5 c5 hn5 f12 r3 q => ?_)
  obtain ⟨xσ16, st17, fz, fy⟩ := call1 hE hO xσ15 9 (fun _ h => h) hY
  replace f8 := f8.keep fz fy
  replace f9 := f9.keep fz
  replace f10 := f10.keep fz
  replace f11 := f11.keep fz
  replace f12 := f12.keep fz
  cases hn
  cases he
  cases hn2
  cases hn3
  cases hn4
  cases hn5
  refine ⟨_, _, _, _, _, _, _, _, _, _, _, _, _, _, _, _, _, _, _, _, rfl, ?_⟩
  refine NewH.mk fun H_11 e10 => ?_
  obtain ⟨xσ17, st18, b2⟩ := BoxF.new xσ16 10 e10
  refine ⟨b2.mayN 0 8 (show (8 : Nat) ≤ 8 by decide), NewH.mk fun H_12 e11 => ?_⟩
  obtain ⟨st19, b2⟩ := b2.wr8 (by simp) e11
  simp only [List.take_zero, List.take_succ_cons, List.drop_zero, List.drop_succ_cons, List.drop_nil, List.length_cons, List.length_nil, List.cons_append, List.nil_append, List.append_nil, Nat.zero_add, Nat.reduceAdd] at b2
  refine condI (fun q => ?_) (fun q => ?_) q
  · refine ⟨_, b2.cell 6 rfl, ?_⟩
    refine condI (fun q => ?_) (fun q => ?_) q
    · refine condI (fun q => ?_) (fun q => ?_) q
      · obtain ⟨h0, hi2, q⟩ := q
        replace f8 := f8.step (st18.then st19)
        obtain ⟨a, ha, hi⟩ := f8.addr h0 rfl hi2
        refine ⟨a, ha, hi.1, hi.2, ?_⟩
        obtain ⟨x, hx, q⟩ := q
        obtain ⟨A6, c6, hc, f13⟩ := f8.lds ha h0 hx
        refine ⟨_, _, _, hc.val, ?_⟩
        refine condI (fun q => ?_) (fun q => ?_) q
        · obtain ⟨h02, hi4, q⟩ := q
          obtain ⟨a2, ha2, hi3⟩ := f8.addr h02 rfl hi4
          refine ⟨a2, ha2, hi3.1, hi3.2, ?_⟩
          obtain ⟨x2, hx2, q⟩ := q
          obtain ⟨A7, c7, hc2, f14⟩ := f8.lds ha2 h02 hx2
          refine ⟨_, _, _, hc2.val, ?_⟩
          obtain ⟨h03, x3, hx3, q⟩ := q
          obtain ⟨a3, ha3, hi5⟩ := f14.addr h03 hx3 rfl
          refine ⟨a3, ha3, hi5.1, hi5.2, ?_⟩
          obtain ⟨cs, hr, hc3⟩ := f14.ldN (k := 3) rfl ha3 h03 hx3
          obtain ⟨A8, c8, A9, c9, rfl, f15, f16⟩ := hr
          have hc4 := hc3 0 _ rfl
          refine ⟨_, hc4.val, ?_⟩
          refine condI (fun q => ?_) (fun q => ?_) q
          · obtain ⟨h04, hi7, q⟩ := q
            obtain ⟨a4, ha4, hi6⟩ := f8.addr h04 rfl hi7
            refine ⟨a4, ha4, hi6.1, hi6.2, ?_⟩
            obtain ⟨x4, hx4, q⟩ := q
            obtain ⟨A10, c10, hc5, f17⟩ := f8.lds ha4 h04 hx4
            refine ⟨_, _, _, hc5.val, ?_⟩
            obtain ⟨h05, x5, hx5, q⟩ := q
            obtain ⟨a5, ha5, hi8⟩ := f17.addr h05 hx5 rfl
            refine ⟨a5, ha5, hi8.1, hi8.2, ?_⟩
            obtain ⟨cs2, hr2, hc6⟩ := f17.ldN (k := 3) rfl ha5 h05 hx5
            obtain ⟨A11, c11, A12, c12, rfl, f18, f19⟩ := hr2
            have hc7 := hc6 1 _ rfl
            refine ⟨_, _, _, hc7.val, ?_⟩
            refine NewH.mk fun H_13 e12 => ?_
            obtain ⟨xσ18, st20, f20⟩ := SlO.lit (E := u64L) xσ17 11 (xs := [4, 3]) (l := [[_], [_]]) e12 rfl (.cons rfl (.cons rfl .nil)) (show (2 : Nat) ≤ 17592186044416 by decide)
            replace f18 := f18.step st20
            refine q (fun i => xσ18 i = 0 ∨ xσ18 i = 11) H_13 _ _ _ rfl (f18.wide (fun i h => .inl h)) _ _ _ rfl (f20.read (fun i h => .inl h) (fun i h => .inr (h))) _ (fun Z3 H_14 hE2 hO2 x6 q => ?_)
            obtain ⟨xσ19, st21⟩ := call0 hE2 xσ18
            refine ⟨_, rfl, ?_⟩
            refine condI (fun q => ?_) (fun q => ?_) q
            · obtain ⟨h06, hi10, q⟩ := q
              replace f8 := f8.step (st20.then st21)
              obtain ⟨a6, ha6, hi9⟩ := f8.addr h06 rfl hi10
              refine ⟨a6, ha6, hi9.1, hi9.2, ?_⟩
              obtain ⟨x7, hx6, q⟩ := q
              obtain ⟨A13, c13, hc8, f21⟩ := f8.lds ha6 h06 hx6
              refine ⟨_, _, _, hc8.val, ?_⟩
              obtain ⟨h07, x8, hx7, q⟩ := q
              obtain ⟨a7, ha7, hi11⟩ := f21.addr h07 hx7 rfl
              refine ⟨a7, ha7, hi11.1, hi11.2, ?_⟩
              obtain ⟨cs3, hr3, hc9⟩ := f21.ldN (k := 3) rfl ha7 h07 hx7
              obtain ⟨A14, c14, A15, c15, rfl, f22, f23⟩ := hr3
              have hc10 := hc9 2 _ rfl
              refine ⟨_, _, _, hc10.val, ?_⟩
              refine NewH.mk fun H_15 e13 => ?_
              obtain ⟨xσ20, st22, f24⟩ := SlO.lit (E := i64L) xσ19 12 (xs := [4]) (l := [[_]]) e13 rfl (.cons rfl .nil) (show (1 : Nat) ≤ 17592186044416 by decide)
              replace f23 := f23.step st22
              refine q (fun i => xσ20 i = 0 ∨ xσ20 i = 12) H_15 _ _ _ rfl (f23.wide (fun i h => .inl h)) _ _ _ rfl (f24.read (fun i h => .inl h) (fun i h => .inr (h))) _ (fun Z4 H_16 hE3 hO3 x9 q => ?_)
              obtain ⟨xσ21, st23⟩ := call0 hE3 xσ20
              refine ⟨_, rfl, ?_⟩
              replace hs := hs.trans (st.then (st2.then (st3.then (st4.then (st5.then (st6.then (st7.then (st8.then (st9.then (st10.then (st11.then (st12.then (st13.then (st14.then (st15.then (st16.then (st17.then (st18.then (st19.then (st20.then (st21.then (st22.then st23))))))))))))))))))))))
              exact hk (Zt xσ21) _ (hs.ext hσ) (hs.old hσ) _ q
            · replace hs := hs.trans (st.then (st2.then (st3.then (st4.then (st5.then (st6.then (st7.then (st8.then (st9.then (st10.then (st11.then (st12.then (st13.then (st14.then (st15.then (st16.then (st17.then (st18.then (st19.then (st20.then st21))))))))))))))))))))
              exact hk (Zt xσ19) _ (hs.ext hσ) (hs.old hσ) _ q
          · replace hs := hs.trans (st.then (st2.then (st3.then (st4.then (st5.then (st6.then (st7.then (st8.then (st9.then (st10.then (st11.then (st12.then (st13.then (st14.then (st15.then (st16.then (st17.then (st18.then st19))))))))))))))))))
            exact hk (Zt xσ17) _ (hs.ext hσ) (hs.old hσ) _ q
        · replace hs := hs.trans (st.then (st2.then (st3.then (st4.then (st5.then (st6.then (st7.then (st8.then (st9.then (st10.then (st11.then (st12.then (st13.then (st14.then (st15.then (st16.then (st17.then (st18.then st19))))))))))))))))))
          exact hk (Zt xσ17) _ (hs.ext hσ) (hs.old hσ) _ q
      · replace hs := hs.trans (st.then (st2.then (st3.then (st4.then (st5.then (st6.then (st7.then (st8.then (st9.then (st10.then (st11.then (st12.then (st13.then (st14.then (st15.then (st16.then (st17.then (st18.then st19))))))))))))))))))
        exact hk (Zt xσ17) _ (hs.ext hσ) (hs.old hσ) _ q
    · replace hs := hs.trans (st.then (st2.then (st3.then (st4.then (st5.then (st6.then (st7.then (st8.then (st9.then (st10.then (st11.then (st12.then (st13.then (st14.then (st15.then (st16.then (st17.then (st18.then st19))))))))))))))))))
      exact hk (Zt xσ17) _ (hs.ext hσ) (hs.old hσ) _ q
  · replace hs := hs.trans (st.then (st2.then (st3.then (st4.then (st5.then (st6.then (st7.then (st8.then (st9.then (st10.then (st11.then (st12.then (st13.then (st14.then (st15.then (st16.then (st17.then (st18.then st19))))))))))))))))))
    exact hk (Zt xσ17) _ (hs.ext hσ) (hs.old hσ) _ q
end Go.Proofs.Ytajdpkinlnaidaa.Sh
end
section
set_option linter.unusedVariables false
set_option linter.unusedSimpArgs false
set_option maxRecDepth 100000
set_option maxHeartbeats 8000000
namespace Go.Proofs.Ytajdpkinlnaidaa.Sh
open Go.Sx
def juntolaw20_OpenTold.A : Ann where
  loops := fun i => match i with
    | 36884 => [(40, .int .i64)]
    | 61459 => [(73, .int .i64)]
    | _ => []
  plans := fun i => match i with
    | 12 => .first 0 (.first 1 (.first 2 (.first 3 (.first 4 (.first 5 (.first 8 (.read 6 (.first 7 (.read 9 (.first 10 (.first 11 (.first 12 (.first 13 (.done))))))))))))))
    | 17 => .first 0 (.first 2 (.read 1 (.alt 3 [1] (.first 4 (.first 5 (.first 6 (.first 8 (.first 9 (.first 11 (.read 7 (.read 10 (.alt 12 [10] (.first 13 (.first 14 (.done))) (.stop)))))))))) (.stop))))
    | _ => .stop
def juntolaw20_OpenTold.W (w_0 : Int) (w_1 : Int) (w_2 : Int) (w_3A : Option Addr) (w_3n w_3c : Nat) (w_4A : Option Addr) (w_4n w_4c : Nat) (w_5A : Option Addr) (w_5n w_5c : Nat) (w_6 : Int) (w_7A : Option Addr) (w_7n w_7c : Nat) (holdersA : Option Addr) (holdersn holdersc : Nat) (d : Int) (lA : Option Addr) (ln lc : Nat) (H : Heap) (R : Value → Heap → Prop) : Prop :=
  NewH (H.push (.cells #[.int .u64 w_0, .int .i64 w_1, .int .i64 w_2, .slice w_3A w_3n w_3c, .slice w_4A w_4n w_4c, .slice w_5A w_5n w_5c, .int .i64 w_6, .slice w_7A w_7n w_7c] 30 (0, 0))) fun H_ =>
  cond (decide (((ln : Nat) : Int) > 60)) (R (.bool true) H_)
   (∃ x0 : Int, ∃ x1 : Int, ∃ x2 : Int, ∃ (x3A : Option Addr) (x3n x3c : Nat), ∃ (x4A : Option Addr) (x4n x4c : Nat), ∃ (x5A : Option Addr) (x5n x5c : Nat), ∃ x6 : Int, ∃ (x7A : Option Addr) (x7n x7c : Nat), cellH H_ (Addr.mk H.size 0 none) = some (.int .u64 x0) ∧ cellH H_ (((Addr.mk H.size 0 none)).add 1) = some (.int .i64 x1) ∧ cellH H_ (((Addr.mk H.size 0 none)).add 2) = some (.int .i64 x2) ∧ cellH H_ (((Addr.mk H.size 0 none)).add 3) = some (.slice x3A x3n x3c) ∧ cellH H_ (((Addr.mk H.size 0 none)).add 4) = some (.slice x4A x4n x4c) ∧ cellH H_ (((Addr.mk H.size 0 none)).add 5) = some (.slice x5A x5n x5c) ∧ cellH H_ (((Addr.mk H.size 0 none)).add 6) = some (.int .i64 x6) ∧ cellH H_ (((Addr.mk H.size 0 none)).add 7) = some (.slice x7A x7n x7c) ∧ CallH P N.open_All [.agg #[.int .u64 x0, .int .i64 x1, .int .i64 x2, .slice x3A x3n x3c, .slice x4A x4n x4c, .slice x5A x5n x5c, .int .i64 x6, .slice x7A x7n x7c], .slice holdersA holdersn holdersc, .int .i64 d, .slice lA ln lc] H_ fun v H_2 =>
  ∃ (r0A : Option Addr) (r0n r0c : Nat), ∃ r10 : Int, ∃ r11 : Int, ∃ r12 : Int, ∃ (r13A : Option Addr) (r13n r13c : Nat), ∃ (r14A : Option Addr) (r14n r14c : Nat), ∃ (r15A : Option Addr) (r15n r15c : Nat), ∃ r16 : Int, ∃ (r17A : Option Addr) (r17n r17c : Nat), ∃ r2 : Int, v = .tuple #[.slice r0A r0n r0c, .agg #[.int .u64 r10, .int .i64 r11, .int .i64 r12, .slice r13A r13n r13c, .slice r14A r14n r14c, .slice r15A r15n r15c, .int .i64 r16, .slice r17A r17n r17c], .int .i64 r2] ∧ NewH (H_2.push (.cells #[.int .u64 0, .int .i64 0, .int .i64 0, .slice none 0 0, .slice none 0 0, .slice none 0 0, .int .i64 0, .slice none 0 0] 30 (0, 0))) fun H_3 =>
  MayWrite H_3 (Addr.mk H_2.size 0 none) 8 ∧ NewH (setH (setH (setH (setH (setH (setH (setH (setH H_3 (Addr.mk H_2.size 0 none) (.int .u64 r10)) (((Addr.mk H_2.size 0 none)).add 1) (.int .i64 r11)) (((Addr.mk H_2.size 0 none)).add 2) (.int .i64 r12)) (((Addr.mk H_2.size 0 none)).add 3) (.slice r13A r13n r13c)) (((Addr.mk H_2.size 0 none)).add 4) (.slice r14A r14n r14c)) (((Addr.mk H_2.size 0 none)).add 5) (.slice r15A r15n r15c)) (((Addr.mk H_2.size 0 none)).add 6) (.int .i64 r16)) (((Addr.mk H_2.size 0 none)).add 7) (.slice r17A r17n r17c)) fun H_4 =>
  cond (r2 != 0) (CallH P N.juntolaw20_alive [] H_4 fun v2 H_5 =>
  ∃ r : Bool, v2 = .bool r ∧ R (.bool r) H_5)
   (cond (((r0n : Nat) : Int) != ((ln : Nat) : Int)) (R (.bool false) H_4)
   (LoopI (σ := Int) (fun κ => κ 0 H_4) fun s z H_6 next =>
  cond (decide (s < ((ln : Nat) : Int))) (∃ a : Addr, lA = some a ∧ 0 ≤ s ∧ s < ((ln : Nat) : Int) ∧ ∃ (x0A : Option Addr) (x0n x0c : Nat), ∃ (x1A : Option Addr) (x1n x1c : Nat), cellH H_6 (a.add ((Int.toNat s) * 2)) = some (.slice x0A x0n x0c) ∧ cellH H_6 ((a.add ((Int.toNat s) * 2)).add 1) = some (.slice x1A x1n x1c) ∧ NewH (H_6.push (.cells #[.slice none 0 0, .slice none 0 0] 39 (0, 0))) fun H_7 =>
  MayWrite H_7 (Addr.mk H_6.size 0 none) 2 ∧ NewH (setH (setH H_7 (Addr.mk H_6.size 0 none) (.slice x0A x0n x0c)) (((Addr.mk H_6.size 0 none)).add 1) (.slice x1A x1n x1c)) fun H_8 =>
  ∃ x02 : Int, ∃ x12 : Int, ∃ x22 : Int, ∃ (x3A2 : Option Addr) (x3n2 x3c2 : Nat), ∃ (x4A2 : Option Addr) (x4n2 x4c2 : Nat), ∃ (x5A2 : Option Addr) (x5n2 x5c2 : Nat), ∃ x62 : Int, ∃ (x7A2 : Option Addr) (x7n2 x7c2 : Nat), cellH H_8 (Addr.mk H.size 0 none) = some (.int .u64 x02) ∧ cellH H_8 (((Addr.mk H.size 0 none)).add 1) = some (.int .i64 x12) ∧ cellH H_8 (((Addr.mk H.size 0 none)).add 2) = some (.int .i64 x22) ∧ cellH H_8 (((Addr.mk H.size 0 none)).add 3) = some (.slice x3A2 x3n2 x3c2) ∧ cellH H_8 (((Addr.mk H.size 0 none)).add 4) = some (.slice x4A2 x4n2 x4c2) ∧ cellH H_8 (((Addr.mk H.size 0 none)).add 5) = some (.slice x5A2 x5n2 x5c2) ∧ cellH H_8 (((Addr.mk H.size 0 none)).add 6) = some (.int .i64 x62) ∧ cellH H_8 (((Addr.mk H.size 0 none)).add 7) = some (.slice x7A2 x7n2 x7c2) ∧ ∃ (xA : Option Addr) (xn xc : Nat), cellH H_8 (((Addr.mk H_6.size 0 none)).add 1) = some (.slice xA xn xc) ∧ CallH P N.juntoref20_Line [.agg #[.int .u64 x02, .int .i64 x12, .int .i64 x22, .slice x3A2 x3n2 x3c2, .slice x4A2 x4n2 x4c2, .slice x5A2 x5n2 x5c2, .int .i64 x62, .slice x7A2 x7n2 x7c2], .slice holdersA holdersn holdersc, .int .i64 d, .slice xA xn xc] H_8 fun v3 H_9 =>
  ∃ (r0A2 : Option Addr) (r0n2 r0c2 : Nat), ∃ r1 : Bool, v3 = .tuple #[.slice r0A2 r0n2 r0c2, .bool r1] ∧ cond (!r1) (R (.bool false) H_9) (∃ a2 : Addr, r0A = some a2 ∧ 0 ≤ s ∧ s < ((r0n : Nat) : Int) ∧ ∃ (xA2 : Option Addr) (xn2 xc2 : Nat), cellH H_9 (a2.add (Int.toNat s)) = some (.slice xA2 xn2 xc2) ∧ ∃ (xA3 : Option Addr) (xn3 xc3 : Nat), cellH H_9 (Addr.mk H_6.size 0 none) = some (.slice xA3 xn3 xc3) ∧ cond (((xn2 : Nat) : Int) != (if ((xn3 : Nat) : Int) > 1 then ((xn3 : Nat) : Int) else 1)) (R (.bool false) H_9)
   (∃ a3 : Addr, r0A = some a3 ∧ 0 ≤ s ∧ s < ((r0n : Nat) : Int) ∧ ∃ (xA4 : Option Addr) (xn4 xc4 : Nat), cellH H_9 (a3.add (Int.toNat s)) = some (.slice xA4 xn4 xc4) ∧ LoopI (σ := Int) (fun κ => κ 0 H_9) fun s2 z2 H_10 next2 =>
  cond (decide (s2 < ((xn4 : Nat) : Int))) (∃ a4 : Addr, xA4 = some a4 ∧ 0 ≤ s2 ∧ s2 < ((xn4 : Nat) : Int) ∧ ∃ x03 : Int, ∃ (x1A2 : Option Addr) (x1n2 x1c2 : Nat), ∃ (x2A : Option Addr) (x2n x2c : Nat), cellH H_10 (a4.add ((Int.toNat s2) * 3)) = some (.int .u64 x03) ∧ cellH H_10 ((a4.add ((Int.toNat s2) * 3)).add 1) = some (.slice x1A2 x1n2 x1c2) ∧ cellH H_10 ((a4.add ((Int.toNat s2) * 3)).add 2) = some (.slice x2A x2n x2c) ∧ NewH (H_10.push (.cells #[.int .u64 0, .slice none 0 0, .slice none 0 0] 44 (0, 0))) fun H_11 =>
  MayWrite H_11 (Addr.mk H_10.size 0 none) 3 ∧ NewH (setH (setH (setH H_11 (Addr.mk H_10.size 0 none) (.int .u64 x03)) (((Addr.mk H_10.size 0 none)).add 1) (.slice x1A2 x1n2 x1c2)) (((Addr.mk H_10.size 0 none)).add 2) (.slice x2A x2n x2c)) fun H_12 =>
  ∃ (xA5 : Option Addr) (xn5 xc5 : Nat), cellH H_12 (((Addr.mk H_10.size 0 none)).add 1) = some (.slice xA5 xn5 xc5) ∧ CallH P N.juntoref01_Same [.slice xA5 xn5 xc5, .slice r0A2 r0n2 r0c2] H_12 fun v4 H_13 =>
  ∃ r3 : Bool, v4 = .bool r3 ∧ cond (!r3) (R (.bool false) H_13) (∃ x : Int, cellH H_13 (Addr.mk H_10.size 0 none) = some (.int .u64 x) ∧ ∃ x3 : Int, cellH H_13 (Addr.mk H.size 0 none) = some (.int .u64 x3) ∧ CallH P N.juntoref02_Eval [.int .u64 x3, .slice r0A2 r0n2 r0c2, .int .u64 0] H_13 fun v5 H_14 =>
  ∃ r4 : Int, v5 = .int .u64 r4 ∧ cellH H_14 (Addr.mk H_10.size 0 none) = some (.int .u64 x) ∧ cond (x != r4) (R (.bool false) H_14)
   (next2 (IntKind.i64.wrap (s2 + 1)) H_14)))
   (next (IntKind.i64.wrap (s + 1)) H_10))))
   (CallH P N.juntolaw20_alive [] H_6 fun v6 H_15 =>
  ∃ r5 : Bool, v6 = .bool r5 ∧ R (.bool r5) H_15))))
theorem juntolaw20_OpenTold.ok (w_0 : Int) (w_1 : Int) (w_2 : Int) (w_3A : Option Addr) (w_3n w_3c : Nat) (w_4A : Option Addr) (w_4n w_4c : Nat) (w_5A : Option Addr) (w_5n w_5c : Nat) (w_6 : Int) (w_7A : Option Addr) (w_7n w_7c : Nat) (holdersA : Option Addr) (holdersn holdersc : Nat) (d : Int) (lA : Option Addr) (ln lc : Nat) (H : Heap) (R : Value → Heap → Prop) (h : juntolaw20_OpenTold.W w_0 w_1 w_2 w_3A w_3n w_3c w_4A w_4n w_4c w_5A w_5n w_5c w_6 w_7A w_7n w_7c holdersA holdersn holdersc d lA ln lc H R) : CallH P N.juntolaw20_OpenTold ([.agg #[.int .u64 w_0, .int .i64 w_1, .int .i64 w_2, .slice w_3A w_3n w_3c, .slice w_4A w_4n w_4c, .slice w_5A w_5n w_5c, .int .i64 w_6, .slice w_7A w_7n w_7c], .slice holdersA holdersn holdersc, .int .i64 d, .slice lA ln lc] : List Value) H R := by
  have e : juntolaw20_OpenTold.W w_0 w_1 w_2 w_3A w_3n w_3c w_4A w_4n w_4c w_5A w_5n w_5c w_6 w_7A w_7n w_7c holdersA holdersn holdersc d lA ln lc H R = sxFn P T Sh.R nf juntolaw20_OpenTold.A Try.f3.results.toList (bodyOf Try.f3) (([(.agg #[.int .u64 w_0, .int .i64 w_1, .int .i64 w_2, .slice w_3A w_3n w_3c, .slice w_4A w_4n w_4c, .slice w_5A w_5n w_5c, .int .i64 w_6, .slice w_7A w_7n w_7c] : Value), (.slice holdersA holdersn holdersc : Value), (.int .i64 d : Value), (.slice lA ln lc : Value)] : List Value) ++ List.replicate (95 - ([(.agg #[.int .u64 w_0, .int .i64 w_1, .int .i64 w_2, .slice w_3A w_3n w_3c, .slice w_4A w_4n w_4c, .slice w_5A w_5n w_5c, .int .i64 w_6, .slice w_7A w_7n w_7c] : Value), (.slice holdersA holdersn holdersc : Value), (.int .i64 d : Value), (.slice lA ln lc : Value)] : List Value).length) undef) H R := by kernel_rfl
  exact call_of_sx fits bodies mixed Try.func3 (c := bodyOf Try.f3) (by kernel_rfl) Try.ntmps3 juntolaw20_OpenTold.A (by kernel_rfl) (e.mp h)
end Go.Proofs.Ytajdpkinlnaidaa.Sh
namespace Go.Proofs.Ytajdpkinlnaidaa.Sh
open Go.Sx Go.Lf
def juntolaw20_OpenTold.C (w : TWorld) (holders : (List Int)) (d : Int) (l : (List TSecret)) (K : Bool → Prop) : Prop :=
  ∀ (Z : Nat → Prop) (H : Heap), ∀ (wv : Int), wv = (w.Setup.P : Int) → ∀ (wA : Option Addr) (wn wc : Nat), wn = w.Corrupted.length → SlF i64L Z H wA wc w.Corrupted → ∀ (wA2 : Option Addr) (wn2 wc2 : Nat), wn2 = w.Acts.length → SlF TAct.L Z H wA2 wc2 w.Acts → ∀ (wA3 : Option Addr) (wn3 wc3 : Nat), wn3 = w.Tapes.length → SlF (slL u64L) Z H wA3 wc3 w.Tapes → ∀ (wA4 : Option Addr) (wn4 wc4 : Nat), wn4 = w.Sent.length → SlF TSent.L Z H wA4 wc4 w.Sent → ∀ (holdersA : Option Addr) (holdersn holdersc : Nat), holdersn = holders.length → SlF i64L Z H holdersA holdersc holders → ∀ (lA : Option Addr) (ln lc : Nat), ln = l.length → SlF TSecret.L Z H lA lc l → ∀ KK : Value → Heap → Prop,
    (∀ (Z' : Nat → Prop) (H' : Heap), Ext H H' → Old Z H Z' → ∀ (r0 : Bool), K r0 → KK (.bool r0) H') →
    CallH P N.juntolaw20_OpenTold [.agg #[.int .u64 wv, .int .i64 w.Setup.N, .int .i64 w.Setup.T_, .slice wA wn wc, .slice wA2 wn2 wc2, .slice wA3 wn3 wc3, .int .i64 w.Round, .slice wA4 wn4 wc4], .slice holdersA holdersn holdersc, .int .i64 d, .slice lA ln lc] H KK
def juntolaw20_OpenTold.Q (w : TWorld) (holders : (List Int)) (d : Int) (l : (List TSecret)) (K : Bool → Prop) : Prop :=
  cond (decide (((l.length : Nat) : Int) > 60)) (K true)
   (open_All.C w holders d l (fun (r : (List (List TOpened))) (r2 : TWorld) (r3 : Int) =>
  cond (r3 != 0) (juntolaw20_alive.C (fun (x : Bool) =>
  K x))
   (cond (((r.length : Nat) : Int) != ((l.length : Nat) : Int)) (K false)
   (LoopQ (τ := Int) 0 fun t nextQ =>
  cond (decide (t < ((l.length : Nat) : Int))) (0 ≤ t ∧ ∃ x2 : TSecret, l[Int.toNat t]? = some x2 ∧ juntoref20_Line.C w holders d x2.Shares (fun (r4 : (List Nat)) (r5 : Bool) =>
  cond (!r5) (K false)
   (0 ≤ t ∧ t < ((r.length : Nat) : Int) ∧ ∃ x3 : (List TOpened), r[Int.toNat t]? = some x3 ∧ cond (((x3.length : Nat) : Int) != (if ((x2.To.length : Nat) : Int) > 1 then ((x2.To.length : Nat) : Int) else 1)) (K false)
   (0 ≤ t ∧ t < ((r.length : Nat) : Int) ∧ ∃ x4 : (List TOpened), r[Int.toNat t]? = some x4 ∧ LoopQ (τ := Int) 0 fun t2 nextQ2 =>
  cond (decide (t2 < ((x4.length : Nat) : Int))) (0 ≤ t2 ∧ ∃ x5 : TOpened, x4[Int.toNat t2]? = some x5 ∧ juntoref01_Same.C x5.Poly r4 (fun (x6 : Bool) =>
  cond (!x6) (K false)
   (juntoref02_Eval.C w.Setup.P r4 0 (fun (x7 : Nat) =>
  cond ((x5.Value : Int) != (x7 : Int)) (K false)
   (nextQ2 (IntKind.i64.wrap (t2 + 1)))))))
   (nextQ (IntKind.i64.wrap (t + 1)))))))
   (juntolaw20_alive.C (fun (x8 : Bool) =>
  K x8))))))
theorem juntolaw20_OpenTold.q {w : TWorld} {holders : (List Int)} {d : Int} {l : (List TSecret)} {K : Bool → Prop} (q : juntolaw20_OpenTold.Q w holders d l K) : juntolaw20_OpenTold.C w holders d l K := by
  intro Z H wv he wA wn wc hn f wA2 wn2 wc2 hn2 f2 wA3 wn3 wc3 hn3 f3 wA4 wn4 wc4 hn4 f4 holdersA holdersn holdersc hn5 f5 lA ln lc hn6 f6 KK hk
  cases he
  cases hn
  cases hn2
  cases hn3
  cases hn4
  cases hn5
  cases hn6
  apply juntolaw20_OpenTold.ok
  unfold juntolaw20_OpenTold.W
  unfold juntolaw20_OpenTold.Q at q
  obtain ⟨σ, hz, hσ⟩ := tags Z
  have hs : Stp ([1, 2, 3, 4, 5] : List Nat) σ H σ H := Stp.refl _ _ _
  replace f := f.wide hz
  replace f2 := f2.wide hz
  replace f3 := f3.wide hz
  replace f4 := f4.wide hz
  replace f5 := f5.wide hz
  replace f6 := f6.wide hz
  clear hz
  refine NewH.mk fun H_ e => ?_
  obtain ⟨xσ, st, b⟩ := BoxF.new σ 0 e
  refine condI (fun q => ?_) (fun q => ?_) q
  · replace hs := hs.trans st
    exact hk (Zt xσ) _ (hs.ext hσ) (hs.old hσ) _ q
  · refine ⟨_, _, _, _, _, _, _, _, _, _, _, _, _, _, _, _, b.cell0, b.cell 1 rfl, b.cell 2 rfl, b.cell 3 rfl, b.cell 4 rfl, b.cell 5 rfl, b.cell 6 rfl, b.cell 7 rfl, ?_⟩
    replace f := f.step st
    replace f2 := f2.step st
    replace f3 := f3.step st
    replace f4 := f4.step st
    replace f5 := f5.step st
    replace f6 := f6.step st
    refine q (Zt xσ) H_ _ rfl _ _ _ rfl f _ _ _ rfl f2 _ _ _ rfl f3 _ _ _ rfl f4 _ _ _ rfl f5 _ _ _ rfl f6 _ (fun Z2 H_2 hE hO r Y hY A n c hn7 f7 r2 v he2 A2 n2 c2 hn8 f8 A3 n3 c3 hn9 f9 A4 n4 c4 hn10 f10 A5 n5 c5 hn11 f11 r3 q => ?_)
    obtain ⟨xσ2, st2, fz, fy⟩ := call1 hE hO xσ 1 (fun _ h => h) hY
    replace f7 := f7.keep fz fy
    replace f8 := f8.keep fz
    replace f9 := f9.keep fz
    replace f10 := f10.keep fz
    replace f11 := f11.keep fz
    cases hn7
    cases he2
    cases hn8
    cases hn9
    cases hn10
    cases hn11
    refine ⟨_, _, _, _, _, _, _, _, _, _, _, _, _, _, _, _, _, _, _, _, rfl, ?_⟩
    refine NewH.mk fun H_3 e2 => ?_
    obtain ⟨xσ3, st3, b2⟩ := BoxF.new xσ2 2 e2
    refine ⟨b2.mayN 0 8 (show (8 : Nat) ≤ 8 by decide), NewH.mk fun H_4 e3 => ?_⟩
    obtain ⟨st4, b2⟩ := b2.wr8 (by simp) e3
    simp only [List.take_zero, List.take_succ_cons, List.drop_zero, List.drop_succ_cons, List.drop_nil, List.length_cons, List.length_nil, List.cons_append, List.nil_append, List.append_nil, Nat.zero_add, Nat.reduceAdd] at b2
    refine condI (fun q => ?_) (fun q => ?_) q
    · refine q (Zt xσ3) H_4  _ (fun Z3 H_5 hE2 hO2 x q => ?_)
      obtain ⟨xσ4, st5⟩ := call0 hE2 xσ3
      refine ⟨_, rfl, ?_⟩
      replace hs := hs.trans (st.then (st2.then (st3.then (st4.then st5))))
      exact hk (Zt xσ4) _ (hs.ext hσ) (hs.old hσ) _ q
    · refine condI (fun q => ?_) (fun q => ?_) q
      · replace hs := hs.trans (st.then (st2.then (st3.then st4)))
        exact hk (Zt xσ3) _ (hs.ext hσ) (hs.old hσ) _ q
      · refine LoopI.ofQ q (fun t_ s_ hp_ => ∃ (σ_ : Nat → Nat), Stp [3, 4, 5] xσ3 H_4 σ_ hp_ ∧ t_ = s_) (fun h k => h _ _ k) ⟨_, Stp.refl _ _ _, rfl⟩ ?_
        rintro t _ _ H_6 next nextQ ⟨xσ5, st6, rfl⟩ q hnext
        try dsimp only at q ⊢
        have sl0 := st6
        refine condI (fun q => ?_) (fun q => ?_) q
        · obtain ⟨h0, x2, hx, q⟩ := q
          replace f6 := f6.step (st2.then (st3.then (st4.then st6)))
          obtain ⟨a, ha, hi⟩ := f6.addr h0 hx rfl
          refine ⟨a, ha, hi.1, hi.2, ?_⟩
          obtain ⟨cs, hr, hc⟩ := f6.ldN (k := 2) rfl ha h0 hx
          obtain ⟨A6, c6, A7, c7, rfl, f12, f13⟩ := hr
          have hc2 := hc 0 _ rfl
          have hc3 := hc 1 _ rfl
          refine ⟨_, _, _, _, _, _, hc2.val, hc3.val, ?_⟩
          refine NewH.mk fun H_7 e4 => ?_
          obtain ⟨xσ6, st7, b3⟩ := BoxF.new xσ5 3 e4
          refine ⟨b3.mayN 0 2 (show (2 : Nat) ≤ 2 by decide), NewH.mk fun H_8 e5 => ?_⟩
          obtain ⟨st8, b3⟩ := b3.wr2 (by simp) e5
          simp only [List.take_zero, List.take_succ_cons, List.drop_zero, List.drop_succ_cons, List.drop_nil, List.length_cons, List.length_nil, List.cons_append, List.nil_append, List.append_nil, Nat.zero_add, Nat.reduceAdd] at b3
          replace b := b.step (st2.then (st3.then (st4.then (st6.then (st7.then st8)))))
          refine ⟨_, _, _, _, _, _, _, _, _, _, _, _, _, _, _, _, b.cell0, b.cell 1 rfl, b.cell 2 rfl, b.cell 3 rfl, b.cell 4 rfl, b.cell 5 rfl, b.cell 6 rfl, b.cell 7 rfl, ?_⟩
          refine ⟨_, _, _, b3.cell 1 rfl, ?_⟩
          have c_0 := st2.then (st3.then (st4.then (st6.then (st7.then st8))))
          replace f := f.step c_0
          replace f2 := f2.step c_0
          replace f3 := f3.step c_0
          replace f4 := f4.step c_0
          replace f5 := f5.step c_0
          replace f13 := f13.step (st7.then st8)
          refine q (Zt xσ6) H_8 _ rfl _ _ _ rfl f _ _ _ rfl f2 _ _ _ rfl f3 _ _ _ rfl f4 _ _ _ rfl f5 _ _ _ rfl f13 _ (fun Z4 H_9 hE3 hO3 r4 Y2 hY2 A8 n6 c8 hn12 f14 r5 q => ?_)
          obtain ⟨xσ7, st9, fz3, fy2⟩ := call1 hE3 hO3 xσ6 4 (fun _ h => h) hY2
          replace f14 := f14.keep fz3 fy2
          cases hn12
          refine ⟨_, _, _, _, rfl, ?_⟩
          refine condI (fun q => ?_) (fun q => ?_) q
          · replace hs := hs.trans (st.then (st2.then (st3.then (st4.then (st6.then (st7.then (st8.then st9)))))))
            exact hk (Zt xσ7) _ (hs.ext hσ) (hs.old hσ) _ q
          · obtain ⟨h02, hi3, q⟩ := q
            replace f7 := f7.step (st3.then (st4.then (st6.then (st7.then (st8.then st9)))))
            obtain ⟨a2, ha2, hi2⟩ := f7.addr h02 rfl hi3
            refine ⟨a2, ha2, hi2.1, hi2.2, ?_⟩
            obtain ⟨x3, hx2, q⟩ := q
            obtain ⟨A9, c9, hc4, f15⟩ := f7.lds ha2 h02 hx2
            refine ⟨_, _, _, hc4.val, ?_⟩
            replace b3 := b3.step st9
            refine ⟨_, _, _, b3.cell0, ?_⟩
            refine condI (fun q => ?_) (fun q => ?_) q
            · replace hs := hs.trans (st.then (st2.then (st3.then (st4.then (st6.then (st7.then (st8.then st9)))))))
              exact hk (Zt xσ7) _ (hs.ext hσ) (hs.old hσ) _ q
            · obtain ⟨h03, hi5, q⟩ := q
              obtain ⟨a3, ha3, hi4⟩ := f7.addr h03 rfl hi5
              refine ⟨a3, ha3, hi4.1, hi4.2, ?_⟩
              obtain ⟨x4, hx3, q⟩ := q
              obtain ⟨A10, c10, hc5, f16⟩ := f7.lds ha3 h03 hx3
              refine ⟨_, _, _, hc5.val, ?_⟩
              refine LoopI.ofQ q (fun t_ s_ hp_ => ∃ (σ_ : Nat → Nat), Stp [5] xσ7 H_9 σ_ hp_ ∧ t_ = s_) (fun h k => h _ _ k) ⟨_, Stp.refl _ _ _, rfl⟩ ?_
              rintro t2 _ _ H_10 next2 nextQ2 ⟨xσ8, st10, rfl⟩ q hnext2
              try dsimp only at q ⊢
              have sl1 := st10
              refine condI (fun q => ?_) (fun q => ?_) q
              · obtain ⟨h04, x5, hx4, q⟩ := q
                replace f16 := f16.step st10
                obtain ⟨a4, ha4, hi6⟩ := f16.addr h04 hx4 rfl
                refine ⟨a4, ha4, hi6.1, hi6.2, ?_⟩
                obtain ⟨cs2, hr2, hc6⟩ := f16.ldN (k := 3) rfl ha4 h04 hx4
                obtain ⟨A11, c11, A12, c12, rfl, f17, f18⟩ := hr2
                have hc7 := hc6 0 _ rfl
                have hc8 := hc6 1 _ rfl
                have hc9 := hc6 2 _ rfl
                refine ⟨_, _, _, _, _, _, _, hc7.val, hc8.val, hc9.val, ?_⟩
                refine NewH.mk fun H_11 e6 => ?_
                obtain ⟨xσ9, st11, b4⟩ := BoxF.new xσ8 5 e6
                refine ⟨b4.mayN 0 3 (show (3 : Nat) ≤ 3 by decide), NewH.mk fun H_12 e7 => ?_⟩
                obtain ⟨st12, b4⟩ := b4.wr3 (by simp) e7
                simp only [List.take_zero, List.take_succ_cons, List.drop_zero, List.drop_succ_cons, List.drop_nil, List.length_cons, List.length_nil, List.cons_append, List.nil_append, List.append_nil, Nat.zero_add, Nat.reduceAdd] at b4
                refine ⟨_, _, _, b4.cell 1 rfl, ?_⟩
                replace f17 := f17.step (st11.then st12)
                replace f14 := f14.step (st10.then (st11.then st12))
                refine q (fun i => xσ9 i = 0 ∨ xσ9 i = 4) H_12 _ _ _ rfl (f17.wide (fun i h => .inl h)) _ _ _ rfl (f14.read (fun i h => .inl h) (fun i h => .inr (h))) _ (fun Z5 H_13 hE4 hO4 x6 q => ?_)
                obtain ⟨xσ10, st13⟩ := call0 hE4 xσ9
                refine ⟨_, rfl, ?_⟩
                refine condI (fun q => ?_) (fun q => ?_) q
                · replace hs := hs.trans (st.then (st2.then (st3.then (st4.then (st6.then (st7.then (st8.then (st9.then (st10.then (st11.then (st12.then st13)))))))))))
                  exact hk (Zt xσ10) _ (hs.ext hσ) (hs.old hσ) _ q
                · replace b4 := b4.step st13
                  refine ⟨_, b4.cell0, ?_⟩
                  replace b := b.step (st9.then (st10.then (st11.then (st12.then st13))))
                  refine ⟨_, b.cell0, ?_⟩
                  replace f14 := f14.step st13
                  refine q (fun i => xσ10 i = 0 ∨ xσ10 i = 4) H_13 _ rfl _ _ _ rfl (f14.read (fun i h => .inl h) (fun i h => .inr (h))) _ rfl _ (fun Z6 H_14 hE5 hO5 x7 v2 he3 q => ?_)
                  obtain ⟨xσ11, st14⟩ := call0 hE5 xσ10
                  cases he3
                  refine ⟨_, rfl, ?_⟩
                  replace b4 := b4.step st14
                  refine ⟨b4.cell0, ?_⟩
                  refine condI (fun q => ?_) (fun q => ?_) q
                  · replace hs := hs.trans (st.then (st2.then (st3.then (st4.then (st6.then (st7.then (st8.then (st9.then (st10.then (st11.then (st12.then (st13.then st14))))))))))))
                    exact hk (Zt xσ11) _ (hs.ext hσ) (hs.old hσ) _ q
                  · replace sl1 := sl1.trans (st11.then (st12.then (st13.then st14)))
                    exact hnext2 (IntKind.i64.wrap (t2 + 1)) _ _ ⟨_, sl1, rfl⟩ q
              · replace sl0 := sl0.trans (st7.then (st8.then (st9.then st10)))
                exact hnext (IntKind.i64.wrap (t + 1)) _ _ ⟨_, sl0, rfl⟩ q
        · refine q (Zt xσ5) H_6  _ (fun Z7 H_15 hE6 hO6 x8 q => ?_)
          obtain ⟨xσ12, st15⟩ := call0 hE6 xσ5
          refine ⟨_, rfl, ?_⟩
          replace hs := hs.trans (st.then (st2.then (st3.then (st4.then (st6.then st15)))))
          exact hk (Zt xσ12) _ (hs.ext hσ) (hs.old hσ) _ q
end Go.Proofs.Ytajdpkinlnaidaa.Sh
end
section
set_option linter.unusedVariables false
namespace Go.Proofs.Ytajdpkinlnaidaa.Pl
open Go.Sx Go.Lf Go.Proofs.Ytajdpkinlnaidaa.Sh Go.Proofs.Ytajdpkinlnaidaa.Sp
def exW : TWorld := ⟨⟨11, 5, 1⟩, [4], [⟨1, 4, 0, false, [0]⟩], List.replicate 5 [], 0, []⟩
def exL : List TSecret := [⟨[], [7, 10, 2, 5, 8]⟩]
theorem exW_ok : WOk exW where
  set := ⟨isP11, by decide, by decide, by decide, by decide, by decide⟩
  cor := by decide
  ris := by decide
  tap := by decide
  r0 := by decide
  r1 := by decide
  act := fun a ha => by
    rw [List.mem_singleton.1 ha]
    refine ⟨?_, by decide⟩
    rintro (h | h | h | h | h)
    · exact h (by decide)
    all_goals exact absurd h (by decide)
  key := by decide
theorem exL_line : LineP exW [1, 2, 3, 4, 5] 1 [7, 10, 2, 5, 8] [4, 3] := dec0.2 ⟨by decide, by decide, by decide, by decide⟩
theorem ex_all : AllOk exW [1, 2, 3, 4, 5] 1 5 1 exL fun _ => [4, 3] where
  wok := exW_ok
  en := rfl
  et := rfl
  ris := by decide
  len := by decide
  ded := by decide
  lel := by decide
  rnd := by decide
  sec := fun i s h => by
    have hs := mem_get h
    rw [List.mem_singleton.1 hs]
    exact ⟨by decide, by decide, by decide, exL_line⟩
theorem ex_outs : opens (outsOf exW [1, 2, 3, 4, 5] 5 exL fun _ => [4, 3]) = [[⟨4, [4, 3], [4]⟩]] := by kernel_rfl
theorem alive20_c {K : Bool → Prop} (k : K true) : juntolaw20_alive.C K := by
  refine juntolaw20_alive.q ⟨MakeOk.big (by decide) (by decide), ?_⟩
  have h0 := allC_of ex_all (by decide)
  refine open_All_c (w := exW) (l := exL) ⟨by decide, by decide, by decide, by decide⟩ (by decide) (by decide) (by decide) (fun h => absurd h0 h) fun e n tt F he hA _ => ?_
  obtain rfl : e = 1 := by omega
  have hn : n = 5 := by have : (5 : Int) = n := hA.en; omega
  subst hn
  have hF : F 0 = [4, 3] := line_uniq exW_ok rfl (by decide) (by decide) (by decide) (by decide) (hA.sec 0 _ rfl).line exL_line
  have ho : outsOf exW [1, 2, 3, 4, 5] 5 exL F = outsOf exW [1, 2, 3, 4, 5] 5 exL fun _ => [4, 3] := by
    unfold outsOf gots
    refine tab_ext fun i hi => ?_
    have : i = 0 := by simp [exL] at hi; exact hi
    subst this
    unfold gotQ
    rw [hF]
  rw [ho, ex_outs]
  refine ct rfl (ct rfl (ct rfl ⟨by decide, by decide, _, rfl, ct rfl ⟨by decide, by decide, _, rfl, by decide, _, rfl, ct rfl ⟨by decide, by decide, _, rfl, by decide, _, rfl, juntoref01_Same_c (by decide) (ct rfl ⟨by decide, by decide, _, rfl, by decide, _, rfl, juntoref17_SameInts_c (by decide) ?_⟩)⟩⟩⟩))
  exact k
theorem gots_get {p : Nat} {l : List TSecret} {hs : List Int} {C : List (List (List Nat))} {Hd : List (List Nat)} {F : Nat → List Nat} {n i : Nat} (hi : i < l.length) : (opens (gots p l hs C Hd F n))[i]? = some (((List.range n).filter fun q => asked q (secAt l i)).map fun q => (gotQ p l hs C Hd F q i).Opened) := by
  unfold opens gots
  rw [List.getElem?_map, tab_get _ hi]
  simp
theorem OpenTold_c {w : TWorld} {hs : List Int} {d : Int} {l : List TSecret} (hW : SmW w) (hh : hs.length ≤ 4000000) (hl : l.length ≤ 4000000) (hto : ∀ x ∈ l, x.To.length ≤ 4000000) : juntolaw20_OpenTold.C w hs d l fun b => b = true := by
  refine juntolaw20_OpenTold.q (cnd (fun _ => rfl) fun h60 => ?_)
  refine open_All_c hW hh hl hto (fun h => ct (bne_t h) (alive20_c rfl)) fun e n tt F he hA _ => cf rfl ?_
  subst he
  have hlen : (opens (outsOf w hs n l F)).length = l.length := by unfold opens outsOf gots; rw [List.length_map, tab_len]
  have hset := hA.wok.set
  have h1 := hA.len; have h2 := hA.et; have h3 := hA.ded; have h4 := hA.wok.cor
  have hN2 := hset.2.2.1
  refine cf (bne_f (by omega)) (LoopQ.range l.length (fun _ => True) trivial (by omega) ?_ ?_)
  · intro i next hi _ hn
    obtain ⟨s, hs0⟩ := get_some hi
    have hsec := hA.sec i s hs0
    have h13 := hs13 hN2 hA.ris
    refine ctd (by omega) ⟨by omega, s, hs0, juntoref20_Line_c hset h4 hA.ris (by omega) (by omega) (by rw [hsec.len]; exact Nat.le_refl _) hsec.lt (fun f hf => ?_) (fun hno => absurd hsec.line (hno _))⟩
    have e : f = F i := line_uniq hA.wok h2 hA.ris h1 h3 hsec.lt hf hsec.line
    subst e
    have hget := gots_get (p := w.Setup.P) (hs := hs) (C := cames w (privL l hs n)) (Hd := heards w (saidL l hs n)) (F := F) (n := n + 1) hi
    rw [secAt_get hs0, recips (by have := hsec.to; rwa [hA.en] at this)] at hget
    have hrl : ((if s.To = [] then [0] else s.To.map Int.toNat).map fun q => (gotQ w.Setup.P l hs (cames w (privL l hs n)) (heards w (saidL l hs n)) F q i).Opened).length = max 1 s.To.length := by
      rw [List.length_map]
      by_cases h0 : s.To = []
      · rw [if_pos h0, h0]; rfl
      · rw [if_neg h0, List.length_map]
        have := List.length_pos_iff.2 h0; omega
    have hto13 := hs13 hN2 hsec.to
    generalize hG : ((if s.To = [] then [0] else s.To.map Int.toNat).map fun q => (gotQ w.Setup.P l hs (cames w (privL l hs n)) (heards w (saidL l hs n)) F q i).Opened) = G at hget hrl
    refine cf rfl ⟨by omega, by omega, _, hget, cf (bne_f ?_) ⟨by omega, by omega, _, hget, ?_⟩⟩
    · rw [hrl]; split <;> omega
    refine LoopQ.range G.length (fun _ => True) trivial (by rw [hrl]; omega) ?_ ?_
    · intro m next2 hm _ hn2
      obtain ⟨x, hx⟩ := get_some hm
      have hx0 := hx
      rw [← hG, List.getElem?_map] at hx
      obtain ⟨q, hq, rfl⟩ := Option.map_eq_some_iff.1 hx
      obtain ⟨f1, f2, f3, f4⟩ := dec0.1 hsec.line
      have hpp := hset.1.2.1
      have hp3 := hset.1.1
      refine ctd (by omega) ⟨by omega, _, hx0, juntoref01_Same_c (by show (F i).length < _; omega) ?_⟩
      rw [decide_eq_true (show (gotQ w.Setup.P l hs (cames w (privL l hs n)) (heards w (saidL l hs n)) F q i).Opened.Poly = F i from rfl)]
      exact cf rfl (juntoref02_Eval_c (by omega) hpp (by omega) f1 (by omega) (cf (bne_f rfl) (hn2 trivial)))
    · intro next2 _
      exact cfd (by omega) (hn trivial)
  · intro next _
    exact cfd (by omega) (alive20_c rfl)
end Go.Proofs.Ytajdpkinlnaidaa.Pl
namespace Go.Proofs.Ytajdpkinlnaidaa.Pl
open Go.Sx Go.Lf Go.Proofs.Ytajdpkinlnaidaa.Sh Go.Proofs.Ytajdpkinlnaidaa.Sp
theorem smW_of {w : TWorld} (h : TWorld.L.sm 1048576 w) : SmW w :=
  ⟨Nat.le_trans h.1.1 (by decide), Nat.le_trans h.2.1.1 (by decide), Nat.le_trans h.2.2.1.1 (by decide), Nat.le_trans h.2.2.2.1 (by decide)⟩
theorem sm_len {α : Type} {E : Rl α} {xs : List α} (h : (slL E).sm 1048576 xs) : xs.length ≤ 4000000 := Nat.le_trans h.1 (by decide)
theorem sm_to {l : List TSecret} (h : (slL TSecret.L).sm 1048576 l) (x : TSecret) (hx : x ∈ l) : x.To.length ≤ 4000000 := Nat.le_trans (h.2 x hx).1.1 (by decide)
end Go.Proofs.Ytajdpkinlnaidaa.Pl
end
