import Derived.Test.YtlhcaangdenoaaaSLfMap
import Derived.Test.YtlhcaangdenoaaaSFnDecode
import Derived.Test.YtlhcaangdenoaaaSFnField
namespace Go.Lf
end Go.Lf
namespace Go.Proofs.Ytlhcaangdenoaaa.Sh
end Go.Proofs.Ytlhcaangdenoaaa.Sh
namespace Go.Sx
end Go.Sx
set_option linter.unusedVariables false
set_option linter.unusedSimpArgs false
namespace Go.Proofs.Ytlhcaangdenoaaa.Sp
open Go.Sx Go.Proofs.Ytlhcaangdenoaaa.Sh Go.Lf
def decode_CheckQ (p : Nat) (d : Int) (l : List TPoint) (K : Int → Prop) : Prop :=
  field_Is.C p fun (x : Bool) =>
  cond (!x) (K 2) (cond (decide (d < 0)) (K 2) (cond (decide (d ≥ 64)) (K 2)
   (cond (decide (((l.length : Nat) : Int) > 64)) (K 3)
   (LoopQ (τ := List Nat × Int) (([] : List Nat), 0) fun t nextQ =>
  cond (decide (t.2 < ((l.length : Nat) : Int))) (0 ≤ t.2 ∧ ∃ x : TPoint, l[Int.toNat t.2]? = some x ∧ field_Below.C p [x.X, x.Y] (fun (x2 : Int) =>
  cond (x2 != 0) (K x2) (nextQ (mput t.1 x.X, IntKind.i64.wrap (t.2 + 1)))))
   (cond (decide (((t.1.length : Nat) : Int) < ((l.length : Nat) : Int))) (K 6) (K 0))))))
theorem und_map : ∃ e, P.underlying 134 = some (.map 22 e) := ⟨4, by kernel_rfl⟩
theorem und_u64 : P.underlying 22 = some (.int .u64) := by kernel_rfl
theorem decode_Check_q {p : Nat} {d : Int} {l : List TPoint} {K : Int → Prop} (q : decode_CheckQ p d l K) : decode_Check.C p d l K := by
  intro Z H pv he lA ln lc hn f KK hk
  cases he
  cases hn
  apply decode_Check.ok
  unfold decode_Check.W
  unfold decode_CheckQ at q
  obtain ⟨σ, hz, hσ⟩ := tags Z
  have hs : Stp ([1, 2, 3] : List Nat) σ H σ H := Stp.refl _ _ _
  replace f := f.wide hz
  clear hz
  refine q (Zt σ) H _ rfl _ (fun Z2 H_ hE hO x q => ?_)
  obtain ⟨xσ, st⟩ := call0 hE σ
  replace f := f.step st
  replace hs := hs.trans st
  refine ⟨_, rfl, ?_⟩
  refine condI (fun q => ?_) (fun q => ?_) q
  · exact hk (Zt xσ) _ (hs.ext hσ) (hs.old hσ) _ q
  refine condI (fun q => ?_) (fun q => ?_) q
  · exact hk (Zt xσ) _ (hs.ext hσ) (hs.old hσ) _ q
  refine condI (fun q => ?_) (fun q => ?_) q
  · exact hk (Zt xσ) _ (hs.ext hσ) (hs.old hσ) _ q
  refine condI (fun q => ?_) (fun q => ?_) q
  · exact hk (Zt xσ) _ (hs.ext hσ) (hs.old hσ) _ q
  refine NewH.mk fun H_2 e => ?_
  obtain ⟨xσ1, st1, fm⟩ := MapF.new xσ 1 e
  replace f := f.step st1
  replace hs := hs.trans st1
  refine LoopI.ofQ q (fun t_ s_ hp_ => ∃ (σ_ : Nat → Nat), Stp [1, 2, 3] xσ1 H_2 σ_ hp_ ∧ t_.2 = s_ ∧ MapF 1 σ_ hp_ H_.size t_.1) (fun h k => h _ _ k) ⟨_, Stp.refl _ _ _, rfl, fm⟩ ?_
  rintro t _ _ H_3 next nextQ ⟨xσ2, st2, rfl, fm⟩ q hnext
  try dsimp only at q ⊢
  replace f := f.step st2
  replace hs := hs.trans st2
  have sl0 := st2
  refine condI (fun q => ?_) (fun q => ?_) q
  · obtain ⟨h0, x, hx, q⟩ := q
    obtain ⟨a, ha, hi⟩ := f.addr h0 hx rfl
    refine ⟨a, ha, hi.1, hi.2, ?_⟩
    obtain ⟨cs, hr, hc⟩ := f.ldN (k := 2) rfl ha h0 hx
    cases hr
    have hc2 := hc 0 _ rfl
    have hc3 := hc 1 _ rfl
    refine ⟨_, _, hc2.val, hc3.val, ?_⟩
    refine NewH.mk fun H_4 e => ?_
    obtain ⟨xσ3, st3, b⟩ := BoxF.new xσ2 2 e
    replace f := f.step st3
    replace fm := fm.step st3
    replace hs := hs.trans st3
    replace sl0 := sl0.trans st3
    refine ⟨b.mayN 0 2 (show (2 : Nat) ≤ 2 by decide), NewH.mk fun H_5 e2 => ?_⟩
    obtain ⟨st4, b⟩ := b.wroteN 0 (vs := [_, _]) (show (2 : Nat) ≤ 2 by decide) e2
    simp only [List.take_zero, List.take_succ_cons, List.drop_zero, List.drop_succ_cons, List.drop_nil, List.length_cons, List.length_nil, List.cons_append, List.nil_append, List.append_nil, Nat.zero_add, Nat.reduceAdd] at b
    replace f := f.step st4
    replace fm := fm.step st4
    replace hs := hs.trans st4
    replace sl0 := sl0.trans st4
    refine ⟨_, b.cell0, _, b.cell 1 rfl, ?_⟩
    refine NewH.mk fun H_6 e3 => ?_
    obtain ⟨xσ4, st5, f4⟩ := SlO.lit (E := u64L) xσ3 3 (xs := [x.X, x.Y]) (l := [[_], [_]]) e3 rfl (.cons rfl (.cons rfl .nil)) (show (2 : Nat) ≤ 17592186044416 by decide)
    replace f := f.step st5
    replace fm := fm.step st5
    replace b := b.step st5
    replace hs := hs.trans st5
    replace sl0 := sl0.trans st5
    obtain ⟨xσ5, st6, f4⟩ := SlO.freeze f4
    replace f := f.step st6
    replace fm := fm.step st6
    replace b := b.step st6
    replace hs := hs.trans st6
    replace sl0 := sl0.trans st6
    refine q (Zt xσ5) H_6 _ rfl _ _ _ rfl f4 _ (fun Z3 H_7 hE2 hO2 x2 q => ?_)
    obtain ⟨xσ6, st7⟩ := call0 hE2 xσ5
    replace f := f.step st7
    replace fm := fm.step st7
    replace b := b.step st7
    replace hs := hs.trans st7
    replace sl0 := sl0.trans st7
    refine ⟨_, rfl, ?_⟩
    refine condI (fun q => ?_) (fun q => ?_) q
    · exact hk (Zt xσ6) _ (hs.ext hσ) (hs.old hσ) _ q
    · refine ⟨_, b.cell0, ?_⟩
      obtain ⟨em, hm⟩ := und_map
      refine fm.put hm und_u64 (fun H_8 st8 fm => ?_)
      exact hnext (mput t.1 x.X, IntKind.i64.wrap (t.2 + 1)) _ _ ⟨_, sl0.trans st8, rfl, fm⟩ q
  · obtain ⟨es, ck, hb, hl⟩ := fm.len
    refine ⟨es, ck, hb, ?_⟩
    rw [hl]
    refine condI (fun q => ?_) (fun q => ?_) q
    · exact hk (Zt xσ2) _ (hs.ext hσ) (hs.old hσ) _ q
    · exact hk (Zt xσ2) _ (hs.ext hσ) (hs.old hσ) _ q
end Go.Proofs.Ytlhcaangdenoaaa.Sp
