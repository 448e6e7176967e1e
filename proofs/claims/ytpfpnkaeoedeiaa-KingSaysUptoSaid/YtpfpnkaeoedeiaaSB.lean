import Derived.Test.YtpfpnkaeoedeiaaSA
namespace Go.Lf
end Go.Lf
namespace Go.Proofs.Ytpfpnkaeoedeiaa.Back
end Go.Proofs.Ytpfpnkaeoedeiaa.Back
namespace Go.Proofs.Ytpfpnkaeoedeiaa.Pl
end Go.Proofs.Ytpfpnkaeoedeiaa.Pl
namespace Go.Proofs.Ytpfpnkaeoedeiaa.Sh
end Go.Proofs.Ytpfpnkaeoedeiaa.Sh
namespace Go.Proofs.Ytpfpnkaeoedeiaa.Sp
end Go.Proofs.Ytpfpnkaeoedeiaa.Sp
namespace Go.Sx
end Go.Sx
section
set_option linter.unusedVariables false
set_option linter.unusedSimpArgs false
set_option maxRecDepth 100000
set_option maxHeartbeats 8000000
namespace Go.Proofs.Ytpfpnkaeoedeiaa.Sh
open Go.Sx
def slices_Clone_uint64uint64.A : Ann where
 loops := fun i => match i with
   | _ => []
 plans := fun i => match i with
   | _ => .stop
def slices_Clone_uint64uint64.W (sA : Option Addr) (sn sc : Nat) (H : Heap) (R : Value → Heap → Prop) : Prop :=
 cond (Option.isNone sA) (R (.slice none 0 0) H)
  (NewH (H.push (.cells #[] 22 (0, 0))) fun H_ =>
 AppendV 22 1 8 [.int .u64 0] H_ (some (Addr.mk H.size 0 none)) 0 0 sA sn fun vA vn vc H_2 =>
 R (.slice vA vn vc) H_2)
theorem slices_Clone_uint64uint64.ok (sA : Option Addr) (sn sc : Nat) (H : Heap) (R : Value → Heap → Prop) (h : slices_Clone_uint64uint64.W sA sn sc H R) : CallH P N.slices_Clone_uint64uint64 [.slice sA sn sc] H R :=
 okW Try.func46 (by kernel_rfl) Try.ntmps46 slices_Clone_uint64uint64.A (by kernel_rfl) (by kernel_rfl) h
def slices_Contains_intint.A : Ann where
 loops := fun i => match i with
   | _ => []
 plans := fun i => match i with
   | _ => .stop
def slices_Contains_intint.W (sA : Option Addr) (sn sc : Nat) (v : Int) (H : Heap) (R : Value → Heap → Prop) : Prop :=
 CallH P N.slices_Index_intint [.slice sA sn sc, .int .i64 v] H fun v2 H_ =>
 ∃ r : Int, v2 = .int .i64 r ∧ R (.bool (decide (r ≥ 0))) H_
theorem slices_Contains_intint.ok (sA : Option Addr) (sn sc : Nat) (v : Int) (H : Heap) (R : Value → Heap → Prop) (h : slices_Contains_intint.W sA sn sc v H R) : CallH P N.slices_Contains_intint [.slice sA sn sc, .int .i64 v] H R :=
 okW Try.func55 (by kernel_rfl) Try.ntmps55 slices_Contains_intint.A (by kernel_rfl) (by kernel_rfl) h
def slices_Clone_intint.A : Ann where
 loops := fun i => match i with
   | _ => []
 plans := fun i => match i with
   | _ => .stop
def slices_Clone_intint.W (sA : Option Addr) (sn sc : Nat) (H : Heap) (R : Value → Heap → Prop) : Prop :=
 cond (Option.isNone sA) (R (.slice none 0 0) H)
  (NewH (H.push (.cells #[] 3 (0, 0))) fun H_ =>
 AppendV 3 1 8 [.int .i64 0] H_ (some (Addr.mk H.size 0 none)) 0 0 sA sn fun vA vn vc H_2 =>
 R (.slice vA vn vc) H_2)
theorem slices_Clone_intint.ok (sA : Option Addr) (sn sc : Nat) (H : Heap) (R : Value → Heap → Prop) (h : slices_Clone_intint.W sA sn sc H R) : CallH P N.slices_Clone_intint [.slice sA sn sc] H R :=
 okW Try.func56 (by kernel_rfl) Try.ntmps56 slices_Clone_intint.A (by kernel_rfl) (by kernel_rfl) h
def slices_Clone_juntoapiActjuntoapiAct.A : Ann where
 loops := fun i => match i with
   | _ => []
 plans := fun i => match i with
   | _ => .stop
def slices_Clone_juntoapiActjuntoapiAct.W (sA : Option Addr) (sn sc : Nat) (H : Heap) (R : Value → Heap → Prop) : Prop :=
 cond (Option.isNone sA) (R (.slice none 0 0) H)
  (NewH (H.push (.cells #[] 60 (0, 0))) fun H_ =>
 AppendV 60 5 56 [.int .i64 0, .int .i64 0, .int .i64 0, .bool false, .slice none 0 0] H_ (some (Addr.mk H.size 0 none)) 0 0 sA sn fun vA vn vc H_2 =>
 R (.slice vA vn vc) H_2)
theorem slices_Clone_juntoapiActjuntoapiAct.ok (sA : Option Addr) (sn sc : Nat) (H : Heap) (R : Value → Heap → Prop) (h : slices_Clone_juntoapiActjuntoapiAct.W sA sn sc H R) : CallH P N.slices_Clone_juntoapiActjuntoapiAct [.slice sA sn sc] H R :=
 okW Try.func57 (by kernel_rfl) Try.ntmps57 slices_Clone_juntoapiActjuntoapiAct.A (by kernel_rfl) (by kernel_rfl) h
def slices_Clone_LLuint64Luint64.A : Ann where
 loops := fun i => match i with
   | _ => []
 plans := fun i => match i with
   | _ => .stop
def slices_Clone_LLuint64Luint64.W (sA : Option Addr) (sn sc : Nat) (H : Heap) (R : Value → Heap → Prop) : Prop :=
 cond (Option.isNone sA) (R (.slice none 0 0) H)
  (NewH (H.push (.cells #[] 47 (0, 0))) fun H_ =>
 AppendV 47 1 24 [.slice none 0 0] H_ (some (Addr.mk H.size 0 none)) 0 0 sA sn fun vA vn vc H_2 =>
 R (.slice vA vn vc) H_2)
theorem slices_Clone_LLuint64Luint64.ok (sA : Option Addr) (sn sc : Nat) (H : Heap) (R : Value → Heap → Prop) (h : slices_Clone_LLuint64Luint64.W sA sn sc H R) : CallH P N.slices_Clone_LLuint64Luint64 [.slice sA sn sc] H R :=
 okW Try.func58 (by kernel_rfl) Try.ntmps58 slices_Clone_LLuint64Luint64.A (by kernel_rfl) (by kernel_rfl) h
def slices_Clone_juntoapiSentjuntoapiSent.A : Ann where
 loops := fun i => match i with
   | _ => []
 plans := fun i => match i with
   | _ => .stop
def slices_Clone_juntoapiSentjuntoapiSent.W (sA : Option Addr) (sn sc : Nat) (H : Heap) (R : Value → Heap → Prop) : Prop :=
 cond (Option.isNone sA) (R (.slice none 0 0) H)
  (NewH (H.push (.cells #[] 57 (0, 0))) fun H_ =>
 AppendV 57 4 48 [.int .i64 0, .int .i64 0, .int .i64 0, .slice none 0 0] H_ (some (Addr.mk H.size 0 none)) 0 0 sA sn fun vA vn vc H_2 =>
 R (.slice vA vn vc) H_2)
theorem slices_Clone_juntoapiSentjuntoapiSent.ok (sA : Option Addr) (sn sc : Nat) (H : Heap) (R : Value → Heap → Prop) (h : slices_Clone_juntoapiSentjuntoapiSent.W sA sn sc H R) : CallH P N.slices_Clone_juntoapiSentjuntoapiSent [.slice sA sn sc] H R :=
 okW Try.func59 (by kernel_rfl) Try.ntmps59 slices_Clone_juntoapiSentjuntoapiSent.A (by kernel_rfl) (by kernel_rfl) h
def slices_Index_intint.A : Ann where
 loops := fun i => match i with
   | 8198 => [(8, .int .i64)]
   | _ => []
 plans := fun i => match i with
   | _ => .stop
def slices_Index_intint.W (sA : Option Addr) (sn sc : Nat) (v : Int) (H : Heap) (R : Value → Heap → Prop) : Prop :=
 LoopI (σ := Int) (fun κ => κ 0 H) fun s z H_ next =>
 cond (decide (s < ((sn : Nat) : Int))) (∃ a : Addr, sA = some a ∧ 0 ≤ s ∧ s < ((sn : Nat) : Int) ∧ ∃ x : Int, cellH H_ (a.add (Int.toNat s)) = some (.int .i64 x) ∧ cond (v == x) (R (.int .i64 s) H_)
  (next (IntKind.i64.wrap (s + 1)) H_))
  (R (.int .i64 (-1)) H_)
theorem slices_Index_intint.ok (sA : Option Addr) (sn sc : Nat) (v : Int) (H : Heap) (R : Value → Heap → Prop) (h : slices_Index_intint.W sA sn sc v H R) : CallH P N.slices_Index_intint [.slice sA sn sc, .int .i64 v] H R :=
 okW Try.func66 (by kernel_rfl) Try.ntmps66 slices_Index_intint.A (by kernel_rfl) (by kernel_rfl) h
def slices_Equal_uint64uint64.A : Ann where
 loops := fun i => match i with
   | 16392 => [(13, .int .i64)]
   | _ => []
 plans := fun i => match i with
   | 6 => .first 0 (.first 1 (.first 2 (.first 4 (.first 5 (.first 6 (.read 3 (.read 7 (.first 8 (.done)))))))))
   | _ => .stop
def slices_Equal_uint64uint64.W (s1A : Option Addr) (s1n s1c : Nat) (s2A : Option Addr) (s2n s2c : Nat) (H : Heap) (R : Value → Heap → Prop) : Prop :=
 cond (((s1n : Nat) : Int) != ((s2n : Nat) : Int)) (R (.bool false) H)
  (LoopI (σ := Int) (fun κ => κ 0 H) fun s z H_ next =>
 cond (decide (s < ((s1n : Nat) : Int))) (∃ a : Addr, s1A = some a ∧ 0 ≤ s ∧ s < ((s1n : Nat) : Int) ∧ ∃ a2 : Addr, s2A = some a2 ∧ 0 ≤ s ∧ s < ((s2n : Nat) : Int) ∧ ∃ x : Int, cellH H_ (a.add (Int.toNat s)) = some (.int .u64 x) ∧ ∃ x2 : Int, cellH H_ (a2.add (Int.toNat s)) = some (.int .u64 x2) ∧ cond (x != x2) (R (.bool false) H_)
  (next (IntKind.i64.wrap (s + 1)) H_))
  (R (.bool true) H_))
theorem slices_Equal_uint64uint64.ok (s1A : Option Addr) (s1n s1c : Nat) (s2A : Option Addr) (s2n s2c : Nat) (H : Heap) (R : Value → Heap → Prop) (h : slices_Equal_uint64uint64.W s1A s1n s1c s2A s2n s2c H R) : CallH P N.slices_Equal_uint64uint64 [.slice s1A s1n s1c, .slice s2A s2n s2c] H R :=
 okW Try.func69 (by kernel_rfl) Try.ntmps69 slices_Equal_uint64uint64.A (by kernel_rfl) (by kernel_rfl) h
end Go.Proofs.Ytpfpnkaeoedeiaa.Sh
namespace Go.Proofs.Ytpfpnkaeoedeiaa.Sh
open Go.Sx Go.Lf
def slices_Index_intint.C (s : (List Int)) (v : Int) (K : Int → Prop) : Prop :=
 ∀ (Z : Nat → Prop) (H : Heap), ∀ (sA : Option Addr) (sn sc : Nat), sn = s.length → SlF i64L Z H sA sc s → ∀ KK : Value → Heap → Prop,
   (∀ (Z' : Nat → Prop) (H' : Heap), Ext H H' → Old Z H Z' → ∀ (r0 : Int), K r0 → KK (.int .i64 r0) H') →
   CallH P N.slices_Index_intint [.slice sA sn sc, .int .i64 v] H KK
def slices_Index_intint.Q (s : (List Int)) (v : Int) (K : Int → Prop) : Prop :=
 LoopQ (τ := Int) 0 fun t nextQ =>
 cond (decide (t < ((s.length : Nat) : Int))) (0 ≤ t ∧ ∃ x : Int, s[Int.toNat t]? = some x ∧ cond (v == x) (K t)
  (nextQ (IntKind.i64.wrap (t + 1))))
  (K (-1))
theorem slices_Index_intint.q {s : (List Int)} {v : Int} {K : Int → Prop} (q : slices_Index_intint.Q s v K) : slices_Index_intint.C s v K := by
 intro Z H sA sn sc hn f KK hk; cases hn; apply slices_Index_intint.ok; unfold slices_Index_intint.W; unfold slices_Index_intint.Q at q; obtain ⟨σ, hz, hσ⟩ := tags Z; have hs : Stp ([] : List Nat) σ H σ H := Stp.refl _ _ _; replace f := f.wide hz; clear hz; refine LoopI.ofQ q (fun t_ s_ hp_ => ∃ σ_, Stp [] σ H σ_ hp_ ∧ t_ = s_) (fun h k => h _ _ k) ⟨_, Stp.refl _ _ _, rfl⟩ ?_; rintro t _ _ H_ next nextQ ⟨xσ, st, rfl⟩ q hnext; (try dsimp only at q ⊢); have sl0 := st; refine condJ (fun q => ?_) (fun q => ?_) q
 · replace hs := hs.trans st; exact hk (Zt xσ) _ (hs.ext hσ) (hs.old hσ) _ q
 obtain ⟨h0, x, hx, q⟩ := q; replace f := f.step st; obtain ⟨a, ha, hi⟩ := f.addr h0 hx rfl; refine ⟨a, ha, hi.1, hi.2, ?_⟩; have hc := f.ldi ha h0 hx; refine ⟨_, hc.val, ?_⟩; refine condI (fun q => ?_) (fun q => ?_) q
 · replace hs := hs.trans st; exact hk (Zt xσ) _ (hs.ext hσ) (hs.old hσ) _ q
 exact hnext (IntKind.i64.wrap (t + 1)) _ _ ⟨_, sl0, rfl⟩ q
def slices_Contains_intint.C (s : (List Int)) (v : Int) (K : Bool → Prop) : Prop :=
 ∀ (Z : Nat → Prop) (H : Heap), ∀ (sA : Option Addr) (sn sc : Nat), sn = s.length → SlF i64L Z H sA sc s → ∀ KK : Value → Heap → Prop,
   (∀ (Z' : Nat → Prop) (H' : Heap), Ext H H' → Old Z H Z' → ∀ (r0 : Bool), K r0 → KK (.bool r0) H') →
   CallH P N.slices_Contains_intint [.slice sA sn sc, .int .i64 v] H KK
def slices_Contains_intint.Q (s : (List Int)) (v : Int) (K : Bool → Prop) : Prop :=
 slices_Index_intint.C s v (fun (x : Int) =>
 K (decide (x ≥ 0)))
theorem slices_Contains_intint.q {s : (List Int)} {v : Int} {K : Bool → Prop} (q : slices_Contains_intint.Q s v K) : slices_Contains_intint.C s v K := by
 intro Z H sA sn sc hn f KK hk; cases hn; apply slices_Contains_intint.ok; unfold slices_Contains_intint.W; unfold slices_Contains_intint.Q at q; obtain ⟨σ, hz, hσ⟩ := tags Z; have hs : Stp ([] : List Nat) σ H σ H := Stp.refl _ _ _; replace f := f.wide hz; clear hz; refine q (Zt σ) H _ _ _ rfl f _ (fun Z2 H_ hE hO x q => ?_); obtain ⟨xσ, st⟩ := call0 hE σ; refine ⟨_, rfl, ?_⟩; replace hs := hs.trans st; exact hk (Zt xσ) _ (hs.ext hσ) (hs.old hσ) _ q
def slices_Equal_uint64uint64.C (s1 : (List Nat)) (s2 : (List Nat)) (K : Bool → Prop) : Prop :=
 ∀ (Z : Nat → Prop) (H : Heap), ∀ (s1A : Option Addr) (s1n s1c : Nat), s1n = s1.length → SlF u64L Z H s1A s1c s1 → ∀ (s2A : Option Addr) (s2n s2c : Nat), s2n = s2.length → SlF u64L Z H s2A s2c s2 → ∀ KK : Value → Heap → Prop,
   (∀ (Z' : Nat → Prop) (H' : Heap), Ext H H' → Old Z H Z' → ∀ (r0 : Bool), K r0 → KK (.bool r0) H') →
   CallH P N.slices_Equal_uint64uint64 [.slice s1A s1n s1c, .slice s2A s2n s2c] H KK
def slices_Equal_uint64uint64.Q (s1 : (List Nat)) (s2 : (List Nat)) (K : Bool → Prop) : Prop :=
 cond (((s1.length : Nat) : Int) != ((s2.length : Nat) : Int)) (K false)
  (LoopQ (τ := Int) 0 fun t nextQ =>
 cond (decide (t < ((s1.length : Nat) : Int))) (0 ≤ t ∧ ∃ x : Nat, s1[Int.toNat t]? = some x ∧ 0 ≤ t ∧ ∃ x2 : Nat, s2[Int.toNat t]? = some x2 ∧ cond ((x : Int) != (x2 : Int)) (K false)
  (nextQ (IntKind.i64.wrap (t + 1))))
  (K true))
theorem slices_Equal_uint64uint64.q {s1 : (List Nat)} {s2 : (List Nat)} {K : Bool → Prop} (q : slices_Equal_uint64uint64.Q s1 s2 K) : slices_Equal_uint64uint64.C s1 s2 K := by
 intro Z H s1A s1n s1c hn f s2A s2n s2c hn2 f2 KK hk; cases hn; cases hn2; apply slices_Equal_uint64uint64.ok; unfold slices_Equal_uint64uint64.W; unfold slices_Equal_uint64uint64.Q at q; obtain ⟨σ, hz, hσ⟩ := tags Z; have hs : Stp ([] : List Nat) σ H σ H := Stp.refl _ _ _; replace f := f.wide hz; replace f2 := f2.wide hz; clear hz; refine condI (fun q => ?_) (fun q => ?_) q
 · exact hk (Zt σ) _ (hs.ext hσ) (hs.old hσ) _ q
 refine LoopI.ofQ q (fun t_ s_ hp_ => ∃ σ_, Stp [] σ H σ_ hp_ ∧ t_ = s_) (fun h k => h _ _ k) ⟨_, Stp.refl _ _ _, rfl⟩ ?_; rintro t _ _ H_ next nextQ ⟨xσ, st, rfl⟩ q hnext; (try dsimp only at q ⊢); have sl0 := st; refine condJ (fun q => ?_) (fun q => ?_) q
 · replace hs := hs.trans st; exact hk (Zt xσ) _ (hs.ext hσ) (hs.old hσ) _ q
 obtain ⟨h0, x, hx, q⟩ := q; replace f := f.step st; obtain ⟨a, ha, hi⟩ := f.addr h0 hx rfl; refine ⟨a, ha, hi.1, hi.2, ?_⟩; obtain ⟨h02, x2, hx2, q⟩ := q; replace f2 := f2.step st; obtain ⟨a2, ha2, hi2⟩ := f2.addr h02 hx2 rfl; refine ⟨a2, ha2, hi2.1, hi2.2, ?_⟩; have hc := f.ldu ha h0 hx; refine ⟨_, hc.val, ?_⟩; have hc2 := f2.ldu ha2 h02 hx2; refine ⟨_, hc2.val, ?_⟩; refine condI (fun q => ?_) (fun q => ?_) q
 · replace hs := hs.trans st; exact hk (Zt xσ) _ (hs.ext hσ) (hs.old hσ) _ q
 exact hnext (IntKind.i64.wrap (t + 1)) _ _ ⟨_, sl0, rfl⟩ q
end Go.Proofs.Ytpfpnkaeoedeiaa.Sh
end
section
set_option linter.unusedVariables false
namespace Go.Proofs.Ytpfpnkaeoedeiaa.Sp
open Go.Sx Go.Proofs.Ytpfpnkaeoedeiaa.Sh Go.Proofs.Ytpfpnkaeoedeiaa.Back Go.Lf
theorem old_refl (Z : Nat → Prop) (H : Heap) : Old Z H Z := fun _ h _ => h
theorem slices_Clone_c {xs : List Nat} {K : List Nat → Prop} (k : K xs) : slices_Clone_uint64uint64.C xs K := by
 intro Z H A n c hn hF KK hk
 subst hn
 apply slices_Clone_uint64uint64.ok
 unfold slices_Clone_uint64uint64.W
 cases A with
 | none =>
   have hx := hF.none_nil rfl
   subst hx
   exact hk Z H (Ext.refl _) (old_refl _ _) _ (fun _ => False) (fun _ h => h.elim) _ _ _ rfl (SlO.nil _ _ _ _ _) k
 | some a =>
   refine cf rfl ?_
   obtain ⟨σ, hz, hσ⟩ := tags Z
   refine NewH.mk fun H1 e1 => ?_
   obtain ⟨σ1, st1, f1⟩ := SlO.lit (E := u64L) σ 1 (xs := []) (l := []) e1 rfl .nil (show (0 : Nat) ≤ 17592186044416 by decide)
   have hF1 := (hF.wide hz).step st1
   have hs := (Stp.refl [1] σ H).trans st1
   refine SlO.appF f1 hF1 rfl rfl ?_ ?_ rfl rfl (fun A2 c2 H2 σ2 st2 f2 => ?_)
   · have : xs.length ≤ 17592186044416 := hF.lt; simp; omega
   · have : xs.length ≤ 17592186044416 := hF.lt; simp; omega
   have hs := hs.trans st2
   exact hk (Zt σ2) _ (hs.ext hσ) (hs.old hσ) _ (Yt σ2 1) (hs.fresh hσ) _ _ _ rfl f2 k
end Go.Proofs.Ytpfpnkaeoedeiaa.Sp
end
section
set_option linter.unusedVariables false
set_option linter.unusedSimpArgs false
set_option maxRecDepth 100000
set_option maxHeartbeats 8000000
namespace Go.Proofs.Ytpfpnkaeoedeiaa.Sh
open Go.Sx
def juntoref01_Same.A : Ann where
 loops := fun i => match i with
   | 16392 => [(13, .int .i64)]
   | _ => []
 plans := fun i => match i with
   | 6 => .first 0 (.first 1 (.first 2 (.first 4 (.first 5 (.first 6 (.read 3 (.read 7 (.first 8 (.done)))))))))
   | _ => .stop
def juntoref01_Same.W (aA : Option Addr) (an ac : Nat) (bA : Option Addr) (bn bc : Nat) (H : Heap) (R : Value → Heap → Prop) : Prop :=
 cond (((an : Nat) : Int) != ((bn : Nat) : Int)) (R (.bool false) H)
  (LoopI (σ := Int) (fun κ => κ 0 H) fun s z H_ next =>
 cond (decide (s < ((an : Nat) : Int))) (∃ a : Addr, aA = some a ∧ 0 ≤ s ∧ s < ((an : Nat) : Int) ∧ ∃ a2 : Addr, bA = some a2 ∧ 0 ≤ s ∧ s < ((bn : Nat) : Int) ∧ ∃ x : Int, cellH H_ (a.add (Int.toNat s)) = some (.int .u64 x) ∧ ∃ x2 : Int, cellH H_ (a2.add (Int.toNat s)) = some (.int .u64 x2) ∧ cond (x != x2) (R (.bool false) H_)
  (next (IntKind.i64.wrap (s + 1)) H_))
  (R (.bool true) H_))
theorem juntoref01_Same.ok (aA : Option Addr) (an ac : Nat) (bA : Option Addr) (bn bc : Nat) (H : Heap) (R : Value → Heap → Prop) (h : juntoref01_Same.W aA an ac bA bn bc H R) : CallH P N.juntoref01_Same [.slice aA an ac, .slice bA bn bc] H R :=
 okW Try.func21 (by kernel_rfl) Try.ntmps21 juntoref01_Same.A (by kernel_rfl) (by kernel_rfl) h
def juntoref01_Is.A : Ann where
 loops := fun i => match i with
   | 16389 => [(3, .int .u64)]
   | _ => []
 plans := fun i => match i with
   | _ => .stop
def juntoref01_Is.W (p : Int) (H : Heap) (R : Value → Heap → Prop) : Prop :=
 cond (decide (p < 3)) (R (.bool false) H) (cond (decide (p > 65537)) (R (.bool false) H)
  (LoopI (σ := Int) (fun κ => κ 2 H) fun s z H_ next =>
 cond (decide ((IntKind.u64.wrap (s * s)) ≤ p)) (s ≠ 0 ∧ cond ((Int.tmod p s) == 0) (R (.bool false) H_)
  (next (IntKind.u64.wrap (s + 1)) H_))
  (R (.bool true) H_)))
theorem juntoref01_Is.ok (p : Int) (H : Heap) (R : Value → Heap → Prop) (h : juntoref01_Is.W p H R) : CallH P N.juntoref01_Is [.int .u64 p] H R :=
 okW Try.func64 (by kernel_rfl) Try.ntmps64 juntoref01_Is.A (by kernel_rfl) (by kernel_rfl) h
end Go.Proofs.Ytpfpnkaeoedeiaa.Sh
namespace Go.Proofs.Ytpfpnkaeoedeiaa.Sh
open Go.Sx Go.Lf
def juntoref01_Is.C (p : Nat) (K : Bool → Prop) : Prop :=
 ∀ (Z : Nat → Prop) (H : Heap), ∀ (pv : Int), pv = (p : Int) → ∀ KK : Value → Heap → Prop,
   (∀ (Z' : Nat → Prop) (H' : Heap), Ext H H' → Old Z H Z' → ∀ (r0 : Bool), K r0 → KK (.bool r0) H') →
   CallH P N.juntoref01_Is [.int .u64 pv] H KK
def juntoref01_Is.Q (p : Nat) (K : Bool → Prop) : Prop :=
 cond (decide ((p : Int) < 3)) (K false)
  (cond (decide ((p : Int) > 65537)) (K false)
  (LoopQ (τ := Nat) 2 fun t nextQ =>
 cond (decide ((IntKind.u64.wrap ((t : Int) * (t : Int))) ≤ (p : Int))) ((t : Int) ≠ 0 ∧ cond ((Int.tmod (p : Int) (t : Int)) == 0) (K false)
  (nextQ ((IntKind.u64.wrap ((t : Int) + 1)).toNat)))
  (K true)))
theorem juntoref01_Is.q {p : Nat} {K : Bool → Prop} (q : juntoref01_Is.Q p K) : juntoref01_Is.C p K := by
 intro Z H pv he KK hk; cases he; apply juntoref01_Is.ok; unfold juntoref01_Is.W; unfold juntoref01_Is.Q at q; obtain ⟨σ, hz, hσ⟩ := tags Z; have hs : Stp ([] : List Nat) σ H σ H := Stp.refl _ _ _; clear hz; refine condI (fun q => ?_) (fun q => ?_) q
 · exact hk (Zt σ) _ (hs.ext hσ) (hs.old hσ) _ q
 refine condI (fun q => ?_) (fun q => ?_) q
 · exact hk (Zt σ) _ (hs.ext hσ) (hs.old hσ) _ q
 refine LoopI.ofQ q (fun t_ s_ hp_ => ∃ σ_ x0_, Stp [] σ H σ_ hp_ ∧ x0_ = s_ ∧ x0_ = ((t_ : Nat) : Int)) (fun h k => h _ _ k) ⟨_, _, Stp.refl _ _ _, rfl, rfl⟩ ?_; rintro t _ _ H_ next nextQ ⟨xσ, x, st, rfl, rfl⟩ q hnext; (try dsimp only at q ⊢); have sl0 := st; refine condJ (fun q => ?_) (fun q => ?_) q
 · replace hs := hs.trans st; exact hk (Zt xσ) _ (hs.ext hσ) (hs.old hσ) _ q
 obtain ⟨q2, q⟩ := q; refine ⟨q2, ?_⟩; refine condI (fun q => ?_) (fun q => ?_) q
 · replace hs := hs.trans st; exact hk (Zt xσ) _ (hs.ext hσ) (hs.old hσ) _ q
 exact hnext ((IntKind.u64.wrap ((t : Int) + 1)).toNat) _ _ ⟨_, _, sl0, rfl, (natEq (nnw _))⟩ q
def juntoref01_Same.C (a : (List Nat)) (b : (List Nat)) (K : Bool → Prop) : Prop :=
 ∀ (Z : Nat → Prop) (H : Heap), ∀ (aA : Option Addr) (an ac : Nat), an = a.length → SlF u64L Z H aA ac a → ∀ (bA : Option Addr) (bn bc : Nat), bn = b.length → SlF u64L Z H bA bc b → ∀ KK : Value → Heap → Prop,
   (∀ (Z' : Nat → Prop) (H' : Heap), Ext H H' → Old Z H Z' → ∀ (r0 : Bool), K r0 → KK (.bool r0) H') →
   CallH P N.juntoref01_Same [.slice aA an ac, .slice bA bn bc] H KK
def juntoref01_Same.Q (a : (List Nat)) (b : (List Nat)) (K : Bool → Prop) : Prop :=
 cond (((a.length : Nat) : Int) != ((b.length : Nat) : Int)) (K false)
  (LoopQ (τ := Int) 0 fun t nextQ =>
 cond (decide (t < ((a.length : Nat) : Int))) (0 ≤ t ∧ ∃ x : Nat, a[Int.toNat t]? = some x ∧ 0 ≤ t ∧ ∃ x2 : Nat, b[Int.toNat t]? = some x2 ∧ cond ((x : Int) != (x2 : Int)) (K false)
  (nextQ (IntKind.i64.wrap (t + 1))))
  (K true))
theorem juntoref01_Same.q {a : (List Nat)} {b : (List Nat)} {K : Bool → Prop} (q : juntoref01_Same.Q a b K) : juntoref01_Same.C a b K := by
 intro Z H aA an ac hn f bA bn bc hn2 f2 KK hk; cases hn; cases hn2; apply juntoref01_Same.ok; unfold juntoref01_Same.W; unfold juntoref01_Same.Q at q; obtain ⟨σ, hz, hσ⟩ := tags Z; have hs : Stp ([] : List Nat) σ H σ H := Stp.refl _ _ _; replace f := f.wide hz; replace f2 := f2.wide hz; clear hz; refine condI (fun q => ?_) (fun q => ?_) q
 · exact hk (Zt σ) _ (hs.ext hσ) (hs.old hσ) _ q
 refine LoopI.ofQ q (fun t_ s_ hp_ => ∃ σ_, Stp [] σ H σ_ hp_ ∧ t_ = s_) (fun h k => h _ _ k) ⟨_, Stp.refl _ _ _, rfl⟩ ?_; rintro t _ _ H_ next nextQ ⟨xσ, st, rfl⟩ q hnext; (try dsimp only at q ⊢); have sl0 := st; refine condJ (fun q => ?_) (fun q => ?_) q
 · replace hs := hs.trans st; exact hk (Zt xσ) _ (hs.ext hσ) (hs.old hσ) _ q
 obtain ⟨h0, x, hx, q⟩ := q; replace f := f.step st; obtain ⟨a2, ha, hi⟩ := f.addr h0 hx rfl; refine ⟨a2, ha, hi.1, hi.2, ?_⟩; obtain ⟨h02, x2, hx2, q⟩ := q; replace f2 := f2.step st; obtain ⟨a3, ha2, hi2⟩ := f2.addr h02 hx2 rfl; refine ⟨a3, ha2, hi2.1, hi2.2, ?_⟩; have hc := f.ldu ha h0 hx; refine ⟨_, hc.val, ?_⟩; have hc2 := f2.ldu ha2 h02 hx2; refine ⟨_, hc2.val, ?_⟩; refine condI (fun q => ?_) (fun q => ?_) q
 · replace hs := hs.trans st; exact hk (Zt xσ) _ (hs.ext hσ) (hs.old hσ) _ q
 exact hnext (IntKind.i64.wrap (t + 1)) _ _ ⟨_, sl0, rfl⟩ q
end Go.Proofs.Ytpfpnkaeoedeiaa.Sh
end
section
set_option linter.unusedVariables false
namespace Go.Lf
open Go.Sx
theorem LoopQ.upto {τ : Type} {t0 : τ} {step : τ → (τ → Prop) → Prop} (N : Nat) (Inv : Nat → τ → Prop) (h0 : Inv 0 t0) (hs : ∀ (k : Nat) (t : τ) (next : τ → Prop), k ≤ N → Inv k t → (k < N → ∀ t', Inv (k + 1) t' → next t') → step t next) : LoopQ t0 step := by
 refine ⟨fun n t => ∃ k : Nat, k ≤ N ∧ n = N - k ∧ Inv k t, ⟨N, 0, Nat.zero_le _, rfl, h0⟩, ?_⟩
 rintro n t ⟨k, hk, rfl, hI⟩
 exact hs k t _ hk hI fun hlt t' hI' => ⟨N - (k + 1), by omega, k + 1, by omega, rfl, hI'⟩
theorem LoopQ.down {τ : Type} {t0 : τ} {step : τ → (τ → Prop) → Prop} (Inv : τ → Prop) (μ : τ → Nat) (h0 : Inv t0) (hs : ∀ (t : τ) (next : τ → Prop), Inv t → (∀ t', μ t' < μ t → Inv t' → next t') → step t next) : LoopQ t0 step := by
 refine ⟨fun n t => n = μ t ∧ Inv t, ⟨_, rfl, h0⟩, ?_⟩
 rintro n t ⟨rfl, hI⟩
 exact hs t _ hI fun t' hlt hI' => ⟨μ t', hlt, rfl, hI'⟩
theorem LoopQ.range {step : Int → (Int → Prop) → Prop} (N : Nat) (Inv : Nat → Prop) (h0 : Inv 0) (hN : N < 4611686018427387904) (hs : ∀ (k : Nat) (next : Int → Prop), k < N → Inv k → (Inv (k + 1) → next (IntKind.i64.wrap ((k : Int) + 1))) → step (k : Int) next)
   (he : ∀ next : Int → Prop, Inv N → step (N : Int) next) : LoopQ 0 step := by
 refine LoopQ.upto N (fun k t => t = k ∧ Inv k) ⟨rfl, h0⟩ ?_
 rintro k t next hk ⟨rfl, hI⟩ hn
 by_cases h : k < N
 · exact hs k next h hI fun hI' => hn h _ ⟨wsucc (by omega), hI'⟩
 · obtain rfl : k = N := by omega
   exact he next hI
theorem LoopQ.rangeS {S : Type} {s0 : S} {step : Int × S → (Int × S → Prop) → Prop} (N : Nat) (Inv : Nat → S → Prop) (h0 : Inv 0 s0) (hN : N < 4611686018427387904) (hs : ∀ (k : Nat) (s : S) (next : Int × S → Prop), k < N → Inv k s → (∀ s', Inv (k + 1) s' → next (IntKind.i64.wrap ((k : Int) + 1), s')) → step ((k : Int), s) next)
   (he : ∀ (s : S) (next : Int × S → Prop), Inv N s → step ((N : Int), s) next) : LoopQ ((0 : Int), s0) step := by
 refine LoopQ.upto N (fun k t => t.1 = k ∧ Inv k t.2) ⟨rfl, h0⟩ ?_
 rintro k ⟨t, s⟩ next hk ⟨rfl, hI⟩ hn
 by_cases h : k < N
 · exact hs k s next h hI fun s' hI' => hn h _ ⟨wsucc (by omega), hI'⟩
 · obtain rfl : k = N := by omega
   exact he s next hI
theorem get_some {α : Type} {l : List α} {k : Nat} (h : k < l.length) : ∃ x, l[k]? = some x := ⟨_, List.getElem?_eq_getElem h⟩
theorem lt_get {α : Type} {l : List α} {k : Nat} {x : α} (h : l[k]? = some x) : k < l.length := (List.getElem?_eq_some_iff.1 h).1
theorem mem_get {α : Type} {l : List α} {k : Nat} {x : α} (h : l[k]? = some x) : x ∈ l := List.mem_of_getElem? h
theorem uw {x : Nat} (h : x < 18446744073709551616) : IntKind.u64.wrap (x : Int) = x := wu64 (by omega) (by omega)
theorem toNat_c (x : Nat) : ((x : Int)).toNat = x := rfl
end Go.Lf
namespace Go.Proofs.Ytpfpnkaeoedeiaa.Pl
open Go.Sx Go.Lf Go.Proofs.Ytpfpnkaeoedeiaa.Sh Go.Proofs.Ytpfpnkaeoedeiaa.Sp
section
variable {p a b e : Nat}
theorem juntoref01_Same_c {x y : List Nat} (hl : x.length < 4611686018427387904) {K : Bool → Prop} (k : K (decide (x = y))) : juntoref01_Same.C x y K := by
 apply juntoref01_Same.q
 unfold juntoref01_Same.Q
 by_cases hlen : x.length = y.length
 · refine cf (bne_f (by omega)) ?_
   refine LoopQ.range x.length (fun k => ∀ j, j < k → x[j]? = y[j]?) (fun j hj => by omega) hl ?_ ?_
   · intro n next hk hI hn
     obtain ⟨u, hu⟩ := get_some hk
     obtain ⟨v, hv⟩ := get_some (show n < y.length by omega)
     refine ctd (by omega) ⟨by omega, u, hu, by omega, v, hv, ?_⟩
     by_cases huv : u = v
     · refine cf (bne_f (by omega)) (hn fun j hj => ?_)
       rcases Nat.lt_or_ge j n with h' | h'
       · exact hI j h'
       · obtain rfl : j = n := by omega
         rw [hu, hv, huv]
     · refine ct (bne_t (by omega)) ?_
       rw [decide_eq_false (fun h => huv (by rw [h, hv] at hu; cases hu; rfl))] at k; exact k
   · intro next hI
     refine cfd (by omega) ?_
     rw [decide_eq_true] at k
     · exact k
     · apply List.ext_getElem?
       intro j
       rcases Nat.lt_or_ge j x.length with h' | h'
       · exact hI j h'
       · rw [List.getElem?_eq_none h', List.getElem?_eq_none (by omega)]
 · refine ct (bne_t (by omega)) ?_
   rw [decide_eq_false (fun h => hlen (by rw [h]))] at k; exact k
end
end Go.Proofs.Ytpfpnkaeoedeiaa.Pl
end
section
set_option linter.unusedVariables false
set_option linter.unusedSimpArgs false
namespace Go.Proofs.Ytpfpnkaeoedeiaa.Pl
open Go.Sx Go.Lf Go.Proofs.Ytpfpnkaeoedeiaa.Sh Go.Proofs.Ytpfpnkaeoedeiaa.Sp
section
variable {p : Nat} [NeZero p]
def cz (p : Nat) [NeZero p] (x : Nat) : Fin p := Fin.ofNat p x
def pv (p : Nat) [NeZero p] (f : List Nat) (x : Fin p) : Fin p := f.foldr (fun c v => v * x + cz p c) 0
end
def isP (p : Nat) : Prop := 3 ≤ p ∧ p ≤ 65537 ∧ ∀ d, 2 ≤ d → d * d ≤ p → p % d ≠ 0
open Classical in
noncomputable def prm (p : Nat) : Bool := decide (isP p)
theorem prm_t {p : Nat} (h : isP p) : prm p = true := by unfold prm; simp [h]
theorem prm_f {p : Nat} (h : ¬ isP p) : prm p = false := by unfold prm; simp [h]
theorem sq_lt {s p : Nat} (h : s * s ≤ p) (hp : p ≤ 65537) : s ≤ 256 := by
 rcases Nat.lt_or_ge 256 s with h' | h'
 · have := Nat.mul_le_mul h' h'; omega
 · exact h'
theorem sq_small {s : Nat} (h : s ≤ 258) : s * s < 18446744073709551616 := by
 have := Nat.mul_le_mul h h; omega
theorem field_Is_c {p : Nat} {K : Bool → Prop} (k : K (prm p)) : field_Is.C p K := by
 apply field_Is.q
 unfold field_Is.Q
 by_cases h1 : p < 3
 · rw [prm_f (fun h => by have := h.1; omega)] at k; exact ctd (by omega) k
 refine cfd (by omega) ?_
 by_cases h2 : 65537 < p
 · rw [prm_f (fun h => by have := h.2.1; omega)] at k; exact ctd (by omega) k
 refine cfd (by omega) ⟨by omega, ?_⟩
 rw [show Int.tmod (p : Int) 2 = ((p % 2 : Nat) : Int) from rfl]
 by_cases h3 : p % 2 = 0
 · rw [prm_f (fun h => h.2.2 2 (by omega) (by omega) h3)] at k; exact ct (beq_t (by omega)) k
 refine cf (beq_f (by omega)) ?_
 refine LoopQ.down (fun s => 3 ≤ s ∧ s ≤ 258 ∧ s % 2 = 1 ∧ ∀ d, 2 ≤ d → d < s → d * d ≤ p → p % d ≠ 0) (fun s => 1000 - s) ⟨by omega, by omega, by omega, fun d h2 h3' h4 => by rw [show d = 2 by omega]; exact h3⟩ ?_
 rintro s next ⟨hs1, hs2, hs3, hd⟩ hn
 rw [show (s : Int) * s = ((s * s : Nat) : Int) by simp, uw (sq_small hs2)]
 by_cases hle : s * s ≤ p
 · refine ctd (by omega) ⟨by omega, ?_⟩
   rw [tmod_nat]
   have hs := sq_lt hle (by omega)
   by_cases hz : p % s = 0
   · rw [prm_f (fun h => h.2.2 s (by omega) hle hz)] at k; exact ct (beq_t (by omega)) k
   · refine cf (beq_f (by omega)) ?_
     rw [show (s : Int) + 2 = ((s + 2 : Nat) : Int) by omega, uw (by omega), toNat_c]
     refine hn _ (by omega) ⟨by omega, by omega, by omega, fun d h2 hlt hdd => ?_⟩
     rcases Nat.lt_or_ge d s with h' | h'
     · exact hd d h2 h' hdd
     · rcases Nat.eq_or_lt_of_le h' with rfl | h''
       · exact hz
       · have : d = s + 1 := by omega
         subst this
         intro hh
         have h5 : (2 : Nat) ∣ p := Nat.dvd_trans (by omega) (Nat.dvd_of_mod_eq_zero hh)
         omega
 · refine cfd (by omega) ?_
   rw [prm_t ⟨by omega, by omega, fun d h2 hdd => hd d h2 (by
     rcases Nat.lt_or_ge d s with h' | h'
     · exact h'
     · have := Nat.mul_le_mul h' h'; omega) hdd⟩] at k
   exact k
theorem juntoref01_Is_c {p : Nat} {K : Bool → Prop} (k : K (prm p)) : juntoref01_Is.C p K := by
 apply juntoref01_Is.q
 unfold juntoref01_Is.Q
 by_cases h1 : p < 3
 · rw [prm_f (fun h => by have := h.1; omega)] at k; exact ctd (by omega) k
 refine cfd (by omega) ?_
 by_cases h2 : 65537 < p
 · rw [prm_f (fun h => by have := h.2.1; omega)] at k; exact ctd (by omega) k
 refine cfd (by omega) ?_
 refine LoopQ.down (fun s => 2 ≤ s ∧ s ≤ 258 ∧ ∀ d, 2 ≤ d → d < s → d * d ≤ p → p % d ≠ 0) (fun s => 1000 - s) ⟨by omega, by omega, fun d h2 h3' h4 => by omega⟩ ?_
 rintro s next ⟨hs1, hs2, hd⟩ hn
 rw [show (s : Int) * s = ((s * s : Nat) : Int) by simp, uw (sq_small hs2)]
 by_cases hle : s * s ≤ p
 · refine ctd (by omega) ⟨by omega, ?_⟩
   rw [tmod_nat]
   have hs := sq_lt hle (by omega)
   by_cases hz : p % s = 0
   · rw [prm_f (fun h => h.2.2 s (by omega) hle hz)] at k; exact ct (beq_t (by omega)) k
   · refine cf (beq_f (by omega)) ?_
     rw [show (s : Int) + 1 = ((s + 1 : Nat) : Int) by omega, uw (by omega), toNat_c]
     refine hn _ (by omega) ⟨by omega, by omega, fun d h2 hlt hdd => ?_⟩
     rcases Nat.lt_or_ge d s with h' | h'
     · exact hd d h2 h' hdd
     · obtain rfl : d = s := by omega
       exact hz
 · refine cfd (by omega) ?_
   rw [prm_t ⟨by omega, by omega, fun d h2 hdd => hd d h2 (by
     rcases Nat.lt_or_ge d s with h' | h'
     · exact h'
     · have := Nat.mul_le_mul h' h'; omega) hdd⟩] at k
   exact k
def tab {α : Type} (n : Nat) (g : Nat → α) : List α := (List.range n).map g
theorem tab_len {α : Type} (n : Nat) (g : Nat → α) : (tab n g).length = n := by simp [tab]
theorem tab_get {α : Type} {n i : Nat} (g : Nat → α) (h : i < n) : (tab n g)[i]? = some (g i) := by simp [tab, h]
theorem tab_get_inv {α : Type} {n i : Nat} {g : Nat → α} {x : α} (h : (tab n g)[i]? = some x) : i < n ∧ x = g i := by
 have hl := lt_get h
 rw [tab_len] at hl
 rw [tab_get g hl] at h; cases h; exact ⟨hl, rfl⟩
theorem tab_ext {α : Type} {n : Nat} {g g' : Nat → α} (h : ∀ i, i < n → g i = g' i) : tab n g = tab n g' := by
 unfold tab; exact List.map_congr_left fun i hi => h i (List.mem_range.1 hi)
theorem tab_of {α : Type} {n : Nat} {l : List α} {g : Nat → α} (hl : l.length = n) (h : ∀ i x, l[i]? = some x → x = g i) : l = tab n g := by
 apply List.ext_getElem?
 intro i
 rcases Nat.lt_or_ge i n with hi | hi
 · obtain ⟨x, hx⟩ := get_some (show i < l.length by omega)
   rw [hx, tab_get g hi, h i x hx]
 · rw [List.getElem?_eq_none (by omega), List.getElem?_eq_none (by rw [tab_len]; omega)]
theorem tab_set {α : Type} {n k : Nat} (g : Nat → α) (v : α) : (tab n g).set k v = tab n fun i => if i = k then v else g i := by
 refine tab_of (by simp [tab_len]) fun i x hx => ?_
 rw [List.getElem?_set] at hx
 by_cases h : k = i
 · subst h
   rw [if_pos rfl] at hx
   split at hx
   · cases hx; simp
   · cases hx
 · rw [if_neg h] at hx
   rw [(tab_get_inv hx).2, if_neg (fun q => h q.symm)]
theorem tab_rep {α : Type} (n : Nat) (v : α) : List.replicate n v = tab n fun _ => v := tab_of (by simp) fun i x hx => by
 obtain ⟨hi, hx⟩ := List.getElem?_eq_some_iff.1 hx
 simp at hx; exact hx.symm
theorem tab_snoc {α : Type} (n : Nat) (g : Nat → α) : tab n g ++ [g n] = tab (n + 1) g := by simp [tab, List.range_succ]
section
variable {p : Nat} [NeZero p]
def S (g : Nat → Fin p) : Nat → Fin p
 | 0 => 0
 | m + 1 => S g m + g m
end
def off (n : Nat) : Nat → Nat
 | 0 => 0
 | i + 1 => off n i + (n - i)
def mx (a b : Nat) : Nat := if b > a then b else a
theorem subw {a b : Nat} (h : b ≤ a) (ha : a < 4611686018427387904) : IntKind.i64.wrap ((a : Int) - (b : Int)) = ((a - b : Nat) : Int) := by rw [wi64 (by omega) (by omega)]; omega
theorem subw1 {a : Nat} (h : 1 ≤ a) (ha : a < 4611686018427387904) : IntKind.i64.wrap ((a : Int) - 1) = ((a - 1 : Nat) : Int) := subw (b := 1) h ha
end Go.Proofs.Ytpfpnkaeoedeiaa.Pl
end
section
set_option linter.unusedVariables false
set_option linter.unusedSimpArgs false
set_option maxRecDepth 100000
set_option maxHeartbeats 8000000
namespace Go.Proofs.Ytpfpnkaeoedeiaa.Sh
open Go.Sx
def share_Corrupted.A : Ann where
 loops := fun i => match i with
   | 32781 => [(6, .int .i64), (21, .int .i64)]
   | _ => []
 plans := fun i => match i with
   | _ => .stop
def share_Corrupted.W (s_0 : Int) (s_1 : Int) (s_2 : Int) (lA : Option Addr) (ln lc : Nat) (H : Heap) (R : Value → Heap → Prop) : Prop :=
 NewH (H.push (.cells #[.int .u64 s_0, .int .i64 s_1, .int .i64 s_2] 24 (0, 0))) fun H_ =>
 ∃ x0 : Int, ∃ x1 : Int, ∃ x2 : Int, cellH H_ (Addr.mk H.size 0 none) = some (.int .u64 x0) ∧ cellH H_ (((Addr.mk H.size 0 none)).add 1) = some (.int .i64 x1) ∧ cellH H_ (((Addr.mk H.size 0 none)).add 2) = some (.int .i64 x2) ∧ CallH P N.share_Setup [.agg #[.int .u64 x0, .int .i64 x1, .int .i64 x2]] H_ fun v H_2 =>
 ∃ r : Int, v = .int .i64 r ∧ cond (r != 0) (R (.int .i64 r) H_2)
  (∃ x : Int, cellH H_2 (((Addr.mk H.size 0 none)).add 2) = some (.int .i64 x) ∧ cond (decide (((ln : Nat) : Int) > x)) (R (.int .i64 2) H_2)
  (LoopI (σ := Int × Int) (fun κ => κ (0, 0) H_2) fun s z H_3 next =>
 cond (decide (s.2 < ((ln : Nat) : Int))) (∃ a : Addr, lA = some a ∧ 0 ≤ s.2 ∧ s.2 < ((ln : Nat) : Int) ∧ ∃ x3 : Int, cellH H_3 (a.add (Int.toNat s.2)) = some (.int .i64 x3) ∧ cond (decide (x3 ≤ s.1)) (R (.int .i64 2) H_3) (∃ x4 : Int, cellH H_3 (((Addr.mk H.size 0 none)).add 1) = some (.int .i64 x4) ∧ cond (decide (x3 > x4)) (R (.int .i64 2) H_3)
  (next (x3, IntKind.i64.wrap (s.2 + 1)) H_3)))
  (R (.int .i64 0) H_3)))
theorem share_Corrupted.ok (s_0 : Int) (s_1 : Int) (s_2 : Int) (lA : Option Addr) (ln lc : Nat) (H : Heap) (R : Value → Heap → Prop) (h : share_Corrupted.W s_0 s_1 s_2 lA ln lc H R) : CallH P N.share_Corrupted [.agg #[.int .u64 s_0, .int .i64 s_1, .int .i64 s_2], .slice lA ln lc] H R :=
 okW Try.func40 (by kernel_rfl) Try.ntmps40 share_Corrupted.A (by kernel_rfl) (by kernel_rfl) h
def share_Setup.A : Ann where
 loops := fun i => match i with
   | _ => []
 plans := fun i => match i with
   | _ => .stop
def share_Setup.W (s_0 : Int) (s_1 : Int) (s_2 : Int) (H : Heap) (R : Value → Heap → Prop) : Prop :=
 NewH (H.push (.cells #[.int .u64 s_0, .int .i64 s_1, .int .i64 s_2] 24 (0, 0))) fun H_ =>
 ∃ x : Int, cellH H_ (Addr.mk H.size 0 none) = some (.int .u64 x) ∧ CallH P N.field_Is [.int .u64 x] H_ fun v H_2 =>
 ∃ r : Bool, v = .bool r ∧ cond (!r) (R (.int .i64 2) H_2) (∃ x2 : Int, cellH H_2 (((Addr.mk H.size 0 none)).add 1) = some (.int .i64 x2) ∧ cond (decide (x2 < 1)) (R (.int .i64 2) H_2) (∃ x3 : Int, cellH H_2 (((Addr.mk H.size 0 none)).add 1) = some (.int .i64 x3) ∧ cond (decide (x3 > 13)) (R (.int .i64 2) H_2) (∃ x4 : Int, cellH H_2 (((Addr.mk H.size 0 none)).add 2) = some (.int .i64 x4) ∧ cond (decide (x4 < 0)) (R (.int .i64 2) H_2) (∃ x5 : Int, cellH H_2 (((Addr.mk H.size 0 none)).add 2) = some (.int .i64 x5) ∧ ∃ x6 : Int, cellH H_2 (((Addr.mk H.size 0 none)).add 1) = some (.int .i64 x6) ∧ cond (decide (x5 > x6)) (R (.int .i64 2) H_2) (∃ x7 : Int, cellH H_2 (((Addr.mk H.size 0 none)).add 2) = some (.int .i64 x7) ∧ ∃ x8 : Int, cellH H_2 (((Addr.mk H.size 0 none)).add 1) = some (.int .i64 x8) ∧ cond (decide ((IntKind.i64.wrap ((IntKind.i64.wrap (4 * x7)) + 1)) > x8)) (R (.int .i64 2) H_2) (∃ x9 : Int, cellH H_2 (Addr.mk H.size 0 none) = some (.int .u64 x9) ∧ ∃ x10 : Int, cellH H_2 (((Addr.mk H.size 0 none)).add 1) = some (.int .i64 x10) ∧ cond (decide (x9 ≤ (IntKind.u64.wrap x10))) (R (.int .i64 2) H_2)
  (R (.int .i64 0) H_2)))))))
theorem share_Setup.ok (s_0 : Int) (s_1 : Int) (s_2 : Int) (H : Heap) (R : Value → Heap → Prop) (h : share_Setup.W s_0 s_1 s_2 H R) : CallH P N.share_Setup [.agg #[.int .u64 s_0, .int .i64 s_1, .int .i64 s_2]] H R :=
 okW Try.func54 (by kernel_rfl) Try.ntmps54 share_Setup.A (by kernel_rfl) (by kernel_rfl) h
end Go.Proofs.Ytpfpnkaeoedeiaa.Sh
namespace Go.Proofs.Ytpfpnkaeoedeiaa.Sh
open Go.Sx Go.Lf
def share_Setup.C (s : TSetup) (K : Int → Prop) : Prop :=
 ∀ (Z : Nat → Prop) (H : Heap), ∀ (sv : Int), sv = (s.P : Int) → ∀ KK : Value → Heap → Prop,
   (∀ (Z' : Nat → Prop) (H' : Heap), Ext H H' → Old Z H Z' → ∀ (r0 : Int), K r0 → KK (.int .i64 r0) H') →
   CallH P N.share_Setup [.agg #[.int .u64 sv, .int .i64 s.N, .int .i64 s.T_]] H KK
def share_Setup.Q (s : TSetup) (K : Int → Prop) : Prop :=
 field_Is.C s.P (fun (x : Bool) =>
 cond (!x) (K 2)
  (cond (decide (s.N < 1)) (K 2)
  (cond (decide (s.N > 13)) (K 2)
  (cond (decide (s.T_ < 0)) (K 2)
  (cond (decide (s.T_ > s.N)) (K 2)
  (cond (decide ((IntKind.i64.wrap ((IntKind.i64.wrap (4 * s.T_)) + 1)) > s.N)) (K 2)
  (cond (decide ((s.P : Int) ≤ (IntKind.u64.wrap s.N))) (K 2)
  (K 0))))))))
theorem share_Setup.q {s : TSetup} {K : Int → Prop} (q : share_Setup.Q s K) : share_Setup.C s K := by
 intro Z H sv he KK hk; cases he; apply share_Setup.ok; unfold share_Setup.W; unfold share_Setup.Q at q; obtain ⟨σ, hz, hσ⟩ := tags Z; have hs : Stp ([] : List Nat) σ H σ H := Stp.refl _ _ _; clear hz; refine NewH.mk fun H_ e => ?_; obtain ⟨xσ, st, b⟩ := BoxF.new σ 0 e; refine ⟨_, b.cell0, ?_⟩; refine q (Zt xσ) H_ _ rfl _ (fun Z2 H_2 hE hO x q => ?_); obtain ⟨xσ2, st2⟩ := call0 hE xσ; refine ⟨_, rfl, ?_⟩; refine condI (fun q => ?_) (fun q => ?_) q
 · replace hs := hs.trans (st.then st2); exact hk (Zt xσ2) _ (hs.ext hσ) (hs.old hσ) _ q
 replace b := b.step st2; refine ⟨_, b.cell 1 rfl, ?_⟩; refine condI (fun q => ?_) (fun q => ?_) q
 · replace hs := hs.trans (st.then st2); exact hk (Zt xσ2) _ (hs.ext hσ) (hs.old hσ) _ q
 refine ⟨_, b.cell 1 rfl, ?_⟩; refine condI (fun q => ?_) (fun q => ?_) q
 · replace hs := hs.trans (st.then st2); exact hk (Zt xσ2) _ (hs.ext hσ) (hs.old hσ) _ q
 refine ⟨_, b.cell 2 rfl, ?_⟩; refine condI (fun q => ?_) (fun q => ?_) q
 · replace hs := hs.trans (st.then st2); exact hk (Zt xσ2) _ (hs.ext hσ) (hs.old hσ) _ q
 refine ⟨_, b.cell 2 rfl, ?_⟩; refine ⟨_, b.cell 1 rfl, ?_⟩; refine condI (fun q => ?_) (fun q => ?_) q
 · replace hs := hs.trans (st.then st2); exact hk (Zt xσ2) _ (hs.ext hσ) (hs.old hσ) _ q
 refine ⟨_, b.cell 2 rfl, ?_⟩; refine ⟨_, b.cell 1 rfl, ?_⟩; refine condI (fun q => ?_) (fun q => ?_) q
 · replace hs := hs.trans (st.then st2); exact hk (Zt xσ2) _ (hs.ext hσ) (hs.old hσ) _ q
 refine ⟨_, b.cell0, ?_⟩; refine ⟨_, b.cell 1 rfl, ?_⟩; refine condI (fun q => ?_) (fun q => ?_) q
 · replace hs := hs.trans (st.then st2); exact hk (Zt xσ2) _ (hs.ext hσ) (hs.old hσ) _ q
 replace hs := hs.trans (st.then st2); exact hk (Zt xσ2) _ (hs.ext hσ) (hs.old hσ) _ q
def share_Corrupted.C (s : TSetup) (l : (List Int)) (K : Int → Prop) : Prop :=
 ∀ (Z : Nat → Prop) (H : Heap), ∀ (sv : Int), sv = (s.P : Int) → ∀ (lA : Option Addr) (ln lc : Nat), ln = l.length → SlF i64L Z H lA lc l → ∀ KK : Value → Heap → Prop,
   (∀ (Z' : Nat → Prop) (H' : Heap), Ext H H' → Old Z H Z' → ∀ (r0 : Int), K r0 → KK (.int .i64 r0) H') →
   CallH P N.share_Corrupted [.agg #[.int .u64 sv, .int .i64 s.N, .int .i64 s.T_], .slice lA ln lc] H KK
def share_Corrupted.Q (s : TSetup) (l : (List Int)) (K : Int → Prop) : Prop :=
 share_Setup.C s (fun (x : Int) =>
 cond (x != 0) (K x)
  (cond (decide (((l.length : Nat) : Int) > s.T_)) (K 2)
  (LoopQ (τ := Int × Int) (0, 0) fun t nextQ =>
 cond (decide (t.2 < ((l.length : Nat) : Int))) (0 ≤ t.2 ∧ ∃ x2 : Int, l[Int.toNat t.2]? = some x2 ∧ cond (decide (x2 ≤ t.1)) (K 2)
  (cond (decide (x2 > s.N)) (K 2)
  (nextQ (x2, IntKind.i64.wrap (t.2 + 1)))))
  (K 0))))
theorem share_Corrupted.q {s : TSetup} {l : (List Int)} {K : Int → Prop} (q : share_Corrupted.Q s l K) : share_Corrupted.C s l K := by
 intro Z H sv he lA ln lc hn f KK hk; cases he; cases hn; apply share_Corrupted.ok; unfold share_Corrupted.W; unfold share_Corrupted.Q at q; obtain ⟨σ, hz, hσ⟩ := tags Z; have hs : Stp ([] : List Nat) σ H σ H := Stp.refl _ _ _; replace f := f.wide hz; clear hz; refine NewH.mk fun H_ e => ?_; obtain ⟨xσ, st, b⟩ := BoxF.new σ 0 e; refine ⟨_, _, _, b.cell0, b.cell 1 rfl, b.cell 2 rfl, ?_⟩; refine q (Zt xσ) H_ _ rfl _ (fun Z2 H_2 hE hO x q => ?_); obtain ⟨xσ2, st2⟩ := call0 hE xσ; refine ⟨_, rfl, ?_⟩; refine condI (fun q => ?_) (fun q => ?_) q
 · replace hs := hs.trans (st.then st2); exact hk (Zt xσ2) _ (hs.ext hσ) (hs.old hσ) _ q
 replace b := b.step st2; refine ⟨_, b.cell 2 rfl, ?_⟩; refine condI (fun q => ?_) (fun q => ?_) q
 · replace hs := hs.trans (st.then st2); exact hk (Zt xσ2) _ (hs.ext hσ) (hs.old hσ) _ q
 refine LoopI.ofQ q (fun t_ s_ hp_ => ∃ σ_, Stp [] xσ2 H_2 σ_ hp_ ∧ (t_.1, t_.2) = s_) (fun h k => h _ _ k) ⟨_, Stp.refl _ _ _, rfl⟩ ?_; rintro t _ _ H_3 next nextQ ⟨xσ3, st3, rfl⟩ q hnext; (try dsimp only at q ⊢); have sl0 := st3; refine condJ (fun q => ?_) (fun q => ?_) q
 · replace hs := hs.trans (st.then (st2.then st3)); exact hk (Zt xσ3) _ (hs.ext hσ) (hs.old hσ) _ q
 obtain ⟨h0, x2, hx, q⟩ := q; replace f := f.step (st.then (st2.then st3)); obtain ⟨a, ha, hi⟩ := f.addr h0 hx rfl; refine ⟨a, ha, hi.1, hi.2, ?_⟩; have hc := f.ldi ha h0 hx; refine ⟨_, hc.val, ?_⟩; refine condI (fun q => ?_) (fun q => ?_) q
 · replace hs := hs.trans (st.then (st2.then st3)); exact hk (Zt xσ3) _ (hs.ext hσ) (hs.old hσ) _ q
 replace b := b.step st3; refine ⟨_, b.cell 1 rfl, ?_⟩; refine condI (fun q => ?_) (fun q => ?_) q
 · replace hs := hs.trans (st.then (st2.then st3)); exact hk (Zt xσ3) _ (hs.ext hσ) (hs.old hσ) _ q
 exact hnext (x2, IntKind.i64.wrap (t.2 + 1)) _ _ ⟨_, sl0, rfl⟩ q
end Go.Proofs.Ytpfpnkaeoedeiaa.Sh
end
section
set_option linter.unusedVariables false
set_option linter.unusedSimpArgs false
set_option maxRecDepth 100000
set_option maxHeartbeats 8000000
namespace Go.Proofs.Ytpfpnkaeoedeiaa.Sh
open Go.Sx
def net_Check.A : Ann where
 loops := fun i => match i with
   | _ => []
 plans := fun i => match i with
   | _ => .stop
def net_Check.W (w_0 : Int) (w_1 : Int) (w_2 : Int) (w_3A : Option Addr) (w_3n w_3c : Nat) (w_4A : Option Addr) (w_4n w_4c : Nat) (w_5A : Option Addr) (w_5n w_5c : Nat) (w_6 : Int) (w_7A : Option Addr) (w_7n w_7c : Nat) (H : Heap) (R : Value → Heap → Prop) : Prop :=
 NewH (H.push (.cells #[.int .u64 w_0, .int .i64 w_1, .int .i64 w_2, .slice w_3A w_3n w_3c, .slice w_4A w_4n w_4c, .slice w_5A w_5n w_5c, .int .i64 w_6, .slice w_7A w_7n w_7c] 30 (0, 0))) fun H_ =>
 ∃ x0 : Int, ∃ x1 : Int, ∃ x2 : Int, cellH H_ (Addr.mk H.size 0 none) = some (.int .u64 x0) ∧ cellH H_ (((Addr.mk H.size 0 none)).add 1) = some (.int .i64 x1) ∧ cellH H_ (((Addr.mk H.size 0 none)).add 2) = some (.int .i64 x2) ∧ ∃ (xA : Option Addr) (xn xc : Nat), cellH H_ (((Addr.mk H.size 0 none)).add 3) = some (.slice xA xn xc) ∧ CallH P N.share_Corrupted [.agg #[.int .u64 x0, .int .i64 x1, .int .i64 x2], .slice xA xn xc] H_ fun v H_2 =>
 ∃ r : Int, v = .int .i64 r ∧ cond (r != 0) (R (.int .i64 r) H_2)
  (∃ (xA2 : Option Addr) (xn2 xc2 : Nat), cellH H_2 (((Addr.mk H.size 0 none)).add 5) = some (.slice xA2 xn2 xc2) ∧ ∃ x : Int, cellH H_2 (((Addr.mk H.size 0 none)).add 1) = some (.int .i64 x) ∧ cond (((xn2 : Nat) : Int) != x) (R (.int .i64 2) H_2) (∃ x3 : Int, cellH H_2 (((Addr.mk H.size 0 none)).add 6) = some (.int .i64 x3) ∧ cond (decide (x3 < 0)) (R (.int .i64 2) H_2) (∃ x4 : Int, cellH H_2 (((Addr.mk H.size 0 none)).add 6) = some (.int .i64 x4) ∧ cond (decide (x4 > 1048576)) (R (.int .i64 2) H_2)
  (∃ x02 : Int, ∃ x12 : Int, ∃ x22 : Int, cellH H_2 (Addr.mk H.size 0 none) = some (.int .u64 x02) ∧ cellH H_2 (((Addr.mk H.size 0 none)).add 1) = some (.int .i64 x12) ∧ cellH H_2 (((Addr.mk H.size 0 none)).add 2) = some (.int .i64 x22) ∧ ∃ (xA3 : Option Addr) (xn3 xc3 : Nat), cellH H_2 (((Addr.mk H.size 0 none)).add 3) = some (.slice xA3 xn3 xc3) ∧ ∃ (xA4 : Option Addr) (xn4 xc4 : Nat), cellH H_2 (((Addr.mk H.size 0 none)).add 4) = some (.slice xA4 xn4 xc4) ∧ CallH P N.net_acts [.agg #[.int .u64 x02, .int .i64 x12, .int .i64 x22], .slice xA3 xn3 xc3, .slice xA4 xn4 xc4] H_2 fun v2 H_3 =>
 ∃ r2 : Int, v2 = .int .i64 r2 ∧ R (.int .i64 r2) H_3))))
theorem net_Check.ok (w_0 : Int) (w_1 : Int) (w_2 : Int) (w_3A : Option Addr) (w_3n w_3c : Nat) (w_4A : Option Addr) (w_4n w_4c : Nat) (w_5A : Option Addr) (w_5n w_5c : Nat) (w_6 : Int) (w_7A : Option Addr) (w_7n w_7c : Nat) (H : Heap) (R : Value → Heap → Prop) (h : net_Check.W w_0 w_1 w_2 w_3A w_3n w_3c w_4A w_4n w_4c w_5A w_5n w_5c w_6 w_7A w_7n w_7c H R) : CallH P N.net_Check [.agg #[.int .u64 w_0, .int .i64 w_1, .int .i64 w_2, .slice w_3A w_3n w_3c, .slice w_4A w_4n w_4c, .slice w_5A w_5n w_5c, .int .i64 w_6, .slice w_7A w_7n w_7c]] H R :=
 okW Try.func25 (by kernel_rfl) Try.ntmps25 net_Check.A (by kernel_rfl) (by kernel_rfl) h
def net_Room.A : Ann where
 loops := fun i => match i with
   | _ => []
 plans := fun i => match i with
   | _ => .stop
def net_Room.W (w_0 : Int) (w_1 : Int) (w_2 : Int) (w_3A : Option Addr) (w_3n w_3c : Nat) (w_4A : Option Addr) (w_4n w_4c : Nat) (w_5A : Option Addr) (w_5n w_5c : Nat) (w_6 : Int) (w_7A : Option Addr) (w_7n w_7c : Nat) (rounds : Int) (H : Heap) (R : Value → Heap → Prop) : Prop :=
 NewH (H.push (.cells #[.int .u64 w_0, .int .i64 w_1, .int .i64 w_2, .slice w_3A w_3n w_3c, .slice w_4A w_4n w_4c, .slice w_5A w_5n w_5c, .int .i64 w_6, .slice w_7A w_7n w_7c] 30 (0, 0))) fun H_ =>
 ∃ x : Int, cellH H_ (((Addr.mk H.size 0 none)).add 6) = some (.int .i64 x) ∧ cond (decide ((IntKind.i64.wrap (x + rounds)) > 1048576)) (R (.int .i64 8) H_)
  (R (.int .i64 0) H_)
theorem net_Room.ok (w_0 : Int) (w_1 : Int) (w_2 : Int) (w_3A : Option Addr) (w_3n w_3c : Nat) (w_4A : Option Addr) (w_4n w_4c : Nat) (w_5A : Option Addr) (w_5n w_5c : Nat) (w_6 : Int) (w_7A : Option Addr) (w_7n w_7c : Nat) (rounds : Int) (H : Heap) (R : Value → Heap → Prop) (h : net_Room.W w_0 w_1 w_2 w_3A w_3n w_3c w_4A w_4n w_4c w_5A w_5n w_5c w_6 w_7A w_7n w_7c rounds H R) : CallH P N.net_Room [.agg #[.int .u64 w_0, .int .i64 w_1, .int .i64 w_2, .slice w_3A w_3n w_3c, .slice w_4A w_4n w_4c, .slice w_5A w_5n w_5c, .int .i64 w_6, .slice w_7A w_7n w_7c], .int .i64 rounds] H R :=
 okW Try.func26 (by kernel_rfl) Try.ntmps26 net_Room.A (by kernel_rfl) (by kernel_rfl) h
def net_Play.A : Ann where
 loops := fun i => match i with
   | 20488 => [(24, .int .i64)]
   | _ => []
 plans := fun i => match i with
   | 7 => .first 0 (.first 2 (.first 3 (.read 1 (.alt 4 [] (.first 5 (.alt 6 [1] (.done) (.stop))) (.stop)))))
   | _ => .stop
def net_Play.W (w_0 : Int) (w_1 : Int) (w_2 : Int) (w_3A : Option Addr) (w_3n w_3c : Nat) (w_4A : Option Addr) (w_4n w_4c : Nat) (w_5A : Option Addr) (w_5n w_5c : Nat) (w_6 : Int) (w_7A : Option Addr) (w_7n w_7c : Nat) (dof : Nat) (doa dob : Array Value) (H : Heap) (R : Value → Heap → Prop) : Prop :=
 NewH (H.push (.cells #[.int .u64 w_0, .int .i64 w_1, .int .i64 w_2, .slice w_3A w_3n w_3c, .slice w_4A w_4n w_4c, .slice w_5A w_5n w_5c, .int .i64 w_6, .slice w_7A w_7n w_7c] 30 (0, 0))) fun H_ =>
 NewH (H_.push (.cells #[.int .u64 0, .int .i64 0, .int .i64 0, .slice none 0 0, .slice none 0 0, .slice none 0 0, .int .i64 0, .slice none 0 0] 30 (0, 0))) fun H_2 =>
 ∃ x0 : Int, ∃ x1 : Int, ∃ x2 : Int, ∃ (x3A : Option Addr) (x3n x3c : Nat), ∃ (x4A : Option Addr) (x4n x4c : Nat), ∃ (x5A : Option Addr) (x5n x5c : Nat), ∃ x6 : Int, ∃ (x7A : Option Addr) (x7n x7c : Nat), cellH H_2 (Addr.mk H.size 0 none) = some (.int .u64 x0) ∧ cellH H_2 (((Addr.mk H.size 0 none)).add 1) = some (.int .i64 x1) ∧ cellH H_2 (((Addr.mk H.size 0 none)).add 2) = some (.int .i64 x2) ∧ cellH H_2 (((Addr.mk H.size 0 none)).add 3) = some (.slice x3A x3n x3c) ∧ cellH H_2 (((Addr.mk H.size 0 none)).add 4) = some (.slice x4A x4n x4c) ∧ cellH H_2 (((Addr.mk H.size 0 none)).add 5) = some (.slice x5A x5n x5c) ∧ cellH H_2 (((Addr.mk H.size 0 none)).add 6) = some (.int .i64 x6) ∧ cellH H_2 (((Addr.mk H.size 0 none)).add 7) = some (.slice x7A x7n x7c) ∧ CallH P N.net_Clone [.agg #[.int .u64 x0, .int .i64 x1, .int .i64 x2, .slice x3A x3n x3c, .slice x4A x4n x4c, .slice x5A x5n x5c, .int .i64 x6, .slice x7A x7n x7c]] H_2 fun v H_3 =>
 ∃ r0 : Int, ∃ r1 : Int, ∃ r2 : Int, ∃ (r3A : Option Addr) (r3n r3c : Nat), ∃ (r4A : Option Addr) (r4n r4c : Nat), ∃ (r5A : Option Addr) (r5n r5c : Nat), ∃ r6 : Int, ∃ (r7A : Option Addr) (r7n r7c : Nat), v = .agg #[.int .u64 r0, .int .i64 r1, .int .i64 r2, .slice r3A r3n r3c, .slice r4A r4n r4c, .slice r5A r5n r5c, .int .i64 r6, .slice r7A r7n r7c] ∧ MayWrite H_3 (Addr.mk H.size 0 none) 8 ∧ NewH (setH (setH (setH (setH (setH (setH (setH (setH H_3 (Addr.mk H.size 0 none) (.int .u64 r0)) (((Addr.mk H.size 0 none)).add 1) (.int .i64 r1)) (((Addr.mk H.size 0 none)).add 2) (.int .i64 r2)) (((Addr.mk H.size 0 none)).add 3) (.slice r3A r3n r3c)) (((Addr.mk H.size 0 none)).add 4) (.slice r4A r4n r4c)) (((Addr.mk H.size 0 none)).add 5) (.slice r5A r5n r5c)) (((Addr.mk H.size 0 none)).add 6) (.int .i64 r6)) (((Addr.mk H.size 0 none)).add 7) (.slice r7A r7n r7c)) fun H_4 =>
 ∃ x02 : Int, ∃ x12 : Int, ∃ x22 : Int, cellH H_4 (Addr.mk H.size 0 none) = some (.int .u64 x02) ∧ cellH H_4 (((Addr.mk H.size 0 none)).add 1) = some (.int .i64 x12) ∧ cellH H_4 (((Addr.mk H.size 0 none)).add 2) = some (.int .i64 x22) ∧ ∃ (xA : Option Addr) (xn xc : Nat), cellH H_4 (((Addr.mk H.size 0 none)).add 5) = some (.slice xA xn xc) ∧ CallH P N.net_Lay [.agg #[.int .u64 x02, .int .i64 x12, .int .i64 x22], .slice xA xn xc, .func (.func 44) #[] #[.pointer (some (Addr.mk H.size 0 none))]] H_4 fun v2 H_5 =>
 ∃ r : Addr, v2 = .pointer (some r) ∧ cond (hasB nf dof) (CallH P dof (doa.toList ++ [.pointer (some r)] ++ dob.toList) H_5 fun v3 H_6 =>
 v3 = .tuple #[] ∧ ∃ (xA2 : Option Addr) (xn2 xc2 : Nat), cellH H_6 (r.add 3) = some (.slice xA2 xn2 xc2) ∧ LoopI (σ := Int) (fun κ => κ 0 H_6) fun s z H_7 next =>
 cond (decide (s < ((xn2 : Nat) : Int))) (∃ a : Addr, xA2 = some a ∧ 0 ≤ s ∧ s < ((xn2 : Nat) : Int) ∧ ∃ (xA3 : Option Addr) (xn3 xc3 : Nat), cellH H_7 (a.add (Int.toNat s)) = some (.slice xA3 xn3 xc3) ∧ ∃ (xA4 : Option Addr) (xn4 xc4 : Nat), cellH H_7 (((Addr.mk H.size 0 none)).add 5) = some (.slice xA4 xn4 xc4) ∧ CallH P N.slices_Clone_uint64uint64 [.slice xA3 xn3 xc3] H_7 fun v4 H_8 =>
 ∃ (rA : Option Addr) (rn rc : Nat), v4 = .slice rA rn rc ∧ cellH H_8 (((Addr.mk H.size 0 none)).add 5) = some (.slice xA4 xn4 xc4) ∧ ∃ a2 : Addr, xA4 = some a2 ∧ 0 ≤ s ∧ s < ((xn4 : Nat) : Int) ∧ MayWrite H_8 (a2.add (Int.toNat s)) 1 ∧ NewH (setH H_8 (a2.add (Int.toNat s)) (.slice rA rn rc)) fun H_9 =>
 next (IntKind.i64.wrap (s + 1)) H_9)
  (∃ x03 : Int, ∃ x13 : Int, ∃ x23 : Int, ∃ (x3A2 : Option Addr) (x3n2 x3c2 : Nat), ∃ (x4A2 : Option Addr) (x4n2 x4c2 : Nat), ∃ (x5A2 : Option Addr) (x5n2 x5c2 : Nat), ∃ x62 : Int, ∃ (x7A2 : Option Addr) (x7n2 x7c2 : Nat), cellH H_7 (Addr.mk H.size 0 none) = some (.int .u64 x03) ∧ cellH H_7 (((Addr.mk H.size 0 none)).add 1) = some (.int .i64 x13) ∧ cellH H_7 (((Addr.mk H.size 0 none)).add 2) = some (.int .i64 x23) ∧ cellH H_7 (((Addr.mk H.size 0 none)).add 3) = some (.slice x3A2 x3n2 x3c2) ∧ cellH H_7 (((Addr.mk H.size 0 none)).add 4) = some (.slice x4A2 x4n2 x4c2) ∧ cellH H_7 (((Addr.mk H.size 0 none)).add 5) = some (.slice x5A2 x5n2 x5c2) ∧ cellH H_7 (((Addr.mk H.size 0 none)).add 6) = some (.int .i64 x62) ∧ cellH H_7 (((Addr.mk H.size 0 none)).add 7) = some (.slice x7A2 x7n2 x7c2) ∧ MayWrite H_7 (Addr.mk H_.size 0 none) 8 ∧ NewH (setH (setH (setH (setH (setH (setH (setH (setH H_7 (Addr.mk H_.size 0 none) (.int .u64 x03)) (((Addr.mk H_.size 0 none)).add 1) (.int .i64 x13)) (((Addr.mk H_.size 0 none)).add 2) (.int .i64 x23)) (((Addr.mk H_.size 0 none)).add 3) (.slice x3A2 x3n2 x3c2)) (((Addr.mk H_.size 0 none)).add 4) (.slice x4A2 x4n2 x4c2)) (((Addr.mk H_.size 0 none)).add 5) (.slice x5A2 x5n2 x5c2)) (((Addr.mk H_.size 0 none)).add 6) (.int .i64 x62)) (((Addr.mk H_.size 0 none)).add 7) (.slice x7A2 x7n2 x7c2)) fun H_10 =>
 ∃ x04 : Int, ∃ x14 : Int, ∃ x24 : Int, ∃ (x3A3 : Option Addr) (x3n3 x3c3 : Nat), ∃ (x4A3 : Option Addr) (x4n3 x4c3 : Nat), ∃ (x5A3 : Option Addr) (x5n3 x5c3 : Nat), ∃ x63 : Int, ∃ (x7A3 : Option Addr) (x7n3 x7c3 : Nat), cellH H_10 (Addr.mk H_.size 0 none) = some (.int .u64 x04) ∧ cellH H_10 (((Addr.mk H_.size 0 none)).add 1) = some (.int .i64 x14) ∧ cellH H_10 (((Addr.mk H_.size 0 none)).add 2) = some (.int .i64 x24) ∧ cellH H_10 (((Addr.mk H_.size 0 none)).add 3) = some (.slice x3A3 x3n3 x3c3) ∧ cellH H_10 (((Addr.mk H_.size 0 none)).add 4) = some (.slice x4A3 x4n3 x4c3) ∧ cellH H_10 (((Addr.mk H_.size 0 none)).add 5) = some (.slice x5A3 x5n3 x5c3) ∧ cellH H_10 (((Addr.mk H_.size 0 none)).add 6) = some (.int .i64 x63) ∧ cellH H_10 (((Addr.mk H_.size 0 none)).add 7) = some (.slice x7A3 x7n3 x7c3) ∧ R (.agg #[.int .u64 x04, .int .i64 x14, .int .i64 x24, .slice x3A3 x3n3 x3c3, .slice x4A3 x4n3 x4c3, .slice x5A3 x5n3 x5c3, .int .i64 x63, .slice x7A3 x7n3 x7c3]) H_10)) False
theorem net_Play.ok (w_0 : Int) (w_1 : Int) (w_2 : Int) (w_3A : Option Addr) (w_3n w_3c : Nat) (w_4A : Option Addr) (w_4n w_4c : Nat) (w_5A : Option Addr) (w_5n w_5c : Nat) (w_6 : Int) (w_7A : Option Addr) (w_7n w_7c : Nat) (dof : Nat) (doa dob : Array Value) (H : Heap) (R : Value → Heap → Prop) (h : net_Play.W w_0 w_1 w_2 w_3A w_3n w_3c w_4A w_4n w_4c w_5A w_5n w_5c w_6 w_7A w_7n w_7c dof doa dob H R) : CallH P N.net_Play [.agg #[.int .u64 w_0, .int .i64 w_1, .int .i64 w_2, .slice w_3A w_3n w_3c, .slice w_4A w_4n w_4c, .slice w_5A w_5n w_5c, .int .i64 w_6, .slice w_7A w_7n w_7c], .func (.func dof) doa dob] H R :=
 okW Try.func27 (by kernel_rfl) Try.ntmps27 net_Play.A (by kernel_rfl) (by kernel_rfl) h
def net_acts.A : Ann where
 loops := fun i => match i with
   | 20495 => [(17, .int .i64)]
   | _ => []
 plans := fun i => match i with
   | _ => .stop
def net_acts.W (s_0 : Int) (s_1 : Int) (s_2 : Int) (corruptedA : Option Addr) (corruptedn corruptedc : Nat) (lA : Option Addr) (ln lc : Nat) (H : Heap) (R : Value → Heap → Prop) : Prop :=
 NewH (H.push (.cells #[.int .u64 s_0, .int .i64 s_1, .int .i64 s_2] 24 (0, 0))) fun H_ =>
 cond (decide (((ln : Nat) : Int) > 65536)) (R (.int .i64 3) H_)
  (NewH (H_.push (.map #[] 0)) fun H_2 =>
 LoopI (σ := Int) (fun κ => κ 0 H_2) fun s z H_3 next =>
 cond (decide (s < ((ln : Nat) : Int))) (∃ a : Addr, lA = some a ∧ 0 ≤ s ∧ s < ((ln : Nat) : Int) ∧ ∃ x0 : Int, ∃ x1 : Int, ∃ x2 : Int, ∃ x3 : Bool, ∃ (x4A : Option Addr) (x4n x4c : Nat), cellH H_3 (a.add ((Int.toNat s) * 5)) = some (.int .i64 x0) ∧ cellH H_3 ((a.add ((Int.toNat s) * 5)).add 1) = some (.int .i64 x1) ∧ cellH H_3 ((a.add ((Int.toNat s) * 5)).add 2) = some (.int .i64 x2) ∧ cellH H_3 ((a.add ((Int.toNat s) * 5)).add 3) = some (.bool x3) ∧ cellH H_3 ((a.add ((Int.toNat s) * 5)).add 4) = some (.slice x4A x4n x4c) ∧ NewH (H_3.push (.cells #[.int .i64 0, .int .i64 0, .int .i64 0, .bool false, .slice none 0 0] 60 (0, 0))) fun H_4 =>
 MayWrite H_4 (Addr.mk H_3.size 0 none) 5 ∧ NewH (setH (setH (setH (setH (setH H_4 (Addr.mk H_3.size 0 none) (.int .i64 x0)) (((Addr.mk H_3.size 0 none)).add 1) (.int .i64 x1)) (((Addr.mk H_3.size 0 none)).add 2) (.int .i64 x2)) (((Addr.mk H_3.size 0 none)).add 3) (.bool x3)) (((Addr.mk H_3.size 0 none)).add 4) (.slice x4A x4n x4c)) fun H_5 =>
 ∃ x : Int, cellH H_5 (Addr.mk H_3.size 0 none) = some (.int .i64 x) ∧ ∃ x4 : Int, cellH H_5 (((Addr.mk H_3.size 0 none)).add 1) = some (.int .i64 x4) ∧ ∃ x5 : Int, cellH H_5 (((Addr.mk H_3.size 0 none)).add 2) = some (.int .i64 x5) ∧ NewH (H_5.push (.cells #[.int .i64 0, .int .i64 0, .int .i64 0] 91 (0, 0))) fun H_6 =>
 MayWrite H_6 (Addr.mk H_5.size 0 none) 3 ∧ NewH (setH (setH (setH H_6 (Addr.mk H_5.size 0 none) (.int .i64 x)) (((Addr.mk H_5.size 0 none)).add 1) (.int .i64 x4)) (((Addr.mk H_5.size 0 none)).add 2) (.int .i64 x5)) fun H_7 =>
 ∃ x6 : Int, cellH H_7 (((Addr.mk H_3.size 0 none)).add 1) = some (.int .i64 x6) ∧ CallH P N.slices_Contains_intint [.slice corruptedA corruptedn corruptedc, .int .i64 x6] H_7 fun v H_8 =>
 ∃ r : Bool, v = .bool r ∧ cond (!r) (R (.int .i64 2) H_8) (∃ x7 : Int, cellH H_8 (((Addr.mk H_3.size 0 none)).add 2) = some (.int .i64 x7) ∧ cond (decide (x7 < 0)) (R (.int .i64 2) H_8) (∃ x8 : Int, cellH H_8 (((Addr.mk H_3.size 0 none)).add 2) = some (.int .i64 x8) ∧ ∃ x9 : Int, cellH H_8 (((Addr.mk H.size 0 none)).add 1) = some (.int .i64 x9) ∧ cond (decide (x8 > x9)) (R (.int .i64 2) H_8) (∃ x10 : Int, cellH H_8 (((Addr.mk H_3.size 0 none)).add 2) = some (.int .i64 x10) ∧ ∃ x11 : Int, cellH H_8 (((Addr.mk H_3.size 0 none)).add 1) = some (.int .i64 x11) ∧ cond (x10 == x11) (R (.int .i64 2) H_8) (∃ x12 : Int, cellH H_8 (Addr.mk H_3.size 0 none) = some (.int .i64 x12) ∧ cond (decide (x12 < 1)) (R (.int .i64 2) H_8)
  (∃ (xA : Option Addr) (xn xc : Nat), cellH H_8 (((Addr.mk H_3.size 0 none)).add 4) = some (.slice xA xn xc) ∧ cond (decide (((xn : Nat) : Int) > 65536)) (R (.int .i64 3) H_8)
  (∃ x02 : Int, ∃ x13 : Int, ∃ x22 : Int, cellH H_8 (Addr.mk H_5.size 0 none) = some (.int .i64 x02) ∧ cellH H_8 (((Addr.mk H_5.size 0 none)).add 1) = some (.int .i64 x13) ∧ cellH H_8 (((Addr.mk H_5.size 0 none)).add 2) = some (.int .i64 x22) ∧ SemV P (Instr.lookup 90 (.map (some H_.size)) (.agg #[.int .i64 x02, .int .i64 x13, .int .i64 x22]) false) H_8 fun v3 H_9 =>
 ∃ v2 : Bool, v3 = .bool v2 ∧ cond v2 (R (.int .i64 6) H_9)
  (∃ x03 : Int, ∃ x14 : Int, ∃ x23 : Int, cellH H_9 (Addr.mk H_5.size 0 none) = some (.int .i64 x03) ∧ cellH H_9 (((Addr.mk H_5.size 0 none)).add 1) = some (.int .i64 x14) ∧ cellH H_9 (((Addr.mk H_5.size 0 none)).add 2) = some (.int .i64 x23) ∧ SemU P (Instr.mapUpdate 90 (.map (some H_.size)) (.agg #[.int .i64 x03, .int .i64 x14, .int .i64 x23]) (.bool true)) H_9 fun H_10 =>
 next (IntKind.i64.wrap (s + 1)) H_10))))))))
  (R (.int .i64 0) H_3))
theorem net_acts.ok (s_0 : Int) (s_1 : Int) (s_2 : Int) (corruptedA : Option Addr) (corruptedn corruptedc : Nat) (lA : Option Addr) (ln lc : Nat) (H : Heap) (R : Value → Heap → Prop) (h : net_acts.W s_0 s_1 s_2 corruptedA corruptedn corruptedc lA ln lc H R) : CallH P N.net_acts [.agg #[.int .u64 s_0, .int .i64 s_1, .int .i64 s_2], .slice corruptedA corruptedn corruptedc, .slice lA ln lc] H R :=
 okW Try.func41 (by kernel_rfl) Try.ntmps41 net_acts.A (by kernel_rfl) (by kernel_rfl) h
def net_Clone.A : Ann where
 loops := fun i => match i with
   | 16391 => [(17, .int .i64)]
   | 40973 => [(40, .int .i64)]
   | 65555 => [(61, .int .i64)]
   | _ => []
 plans := fun i => match i with
   | 6 => .first 0 (.first 2 (.first 3 (.first 5 (.read 1 (.read 4 (.first 6 (.first 7 (.read 8 (.alt 9 [4, 8] (.first 10 (.first 11 (.alt 12 [1] (.done) (.stop)))) (.stop))))))))))
   | 12 => .first 0 (.first 2 (.first 3 (.first 5 (.read 1 (.read 4 (.first 6 (.read 7 (.alt 8 [4, 7] (.first 9 (.alt 10 [1] (.done) (.stop))) (.stop)))))))))
   | 18 => .first 0 (.first 2 (.first 3 (.first 5 (.read 1 (.read 4 (.first 6 (.first 7 (.read 8 (.alt 9 [4, 8] (.first 10 (.first 11 (.alt 12 [1] (.done) (.stop)))) (.stop))))))))))
   | _ => .stop
def net_Clone.W (w_0 : Int) (w_1 : Int) (w_2 : Int) (w_3A : Option Addr) (w_3n w_3c : Nat) (w_4A : Option Addr) (w_4n w_4c : Nat) (w_5A : Option Addr) (w_5n w_5c : Nat) (w_6 : Int) (w_7A : Option Addr) (w_7n w_7c : Nat) (H : Heap) (R : Value → Heap → Prop) : Prop :=
 NewH (H.push (.cells #[.int .u64 w_0, .int .i64 w_1, .int .i64 w_2, .slice w_3A w_3n w_3c, .slice w_4A w_4n w_4c, .slice w_5A w_5n w_5c, .int .i64 w_6, .slice w_7A w_7n w_7c] 30 (0, 0))) fun H_ =>
 NewH (H_.push (.cells #[.int .u64 0, .int .i64 0, .int .i64 0, .slice none 0 0, .slice none 0 0, .slice none 0 0, .int .i64 0, .slice none 0 0] 30 (0, 0))) fun H_2 =>
 ∃ (xA : Option Addr) (xn xc : Nat), cellH H_2 (((Addr.mk H.size 0 none)).add 3) = some (.slice xA xn xc) ∧ CallH P N.slices_Clone_intint [.slice xA xn xc] H_2 fun v H_3 =>
 ∃ (rA : Option Addr) (rn rc : Nat), v = .slice rA rn rc ∧ MayWrite H_3 (((Addr.mk H.size 0 none)).add 3) 1 ∧ NewH (setH H_3 (((Addr.mk H.size 0 none)).add 3) (.slice rA rn rc)) fun H_4 =>
 ∃ (xA2 : Option Addr) (xn2 xc2 : Nat), cellH H_4 (((Addr.mk H.size 0 none)).add 4) = some (.slice xA2 xn2 xc2) ∧ CallH P N.slices_Clone_juntoapiActjuntoapiAct [.slice xA2 xn2 xc2] H_4 fun v2 H_5 =>
 ∃ (rA2 : Option Addr) (rn2 rc2 : Nat), v2 = .slice rA2 rn2 rc2 ∧ MayWrite H_5 (((Addr.mk H.size 0 none)).add 4) 1 ∧ NewH (setH H_5 (((Addr.mk H.size 0 none)).add 4) (.slice rA2 rn2 rc2)) fun H_6 =>
 ∃ (xA3 : Option Addr) (xn3 xc3 : Nat), cellH H_6 (((Addr.mk H.size 0 none)).add 4) = some (.slice xA3 xn3 xc3) ∧ LoopI (σ := Int) (fun κ => κ 0 H_6) fun s z H_7 next =>
 cond (decide (s < ((xn3 : Nat) : Int))) (∃ (xA4 : Option Addr) (xn4 xc4 : Nat), cellH H_7 (((Addr.mk H.size 0 none)).add 4) = some (.slice xA4 xn4 xc4) ∧ ∃ (xA5 : Option Addr) (xn5 xc5 : Nat), cellH H_7 (((Addr.mk H.size 0 none)).add 4) = some (.slice xA5 xn5 xc5) ∧ ∃ a : Addr, xA5 = some a ∧ 0 ≤ s ∧ s < ((xn5 : Nat) : Int) ∧ ∃ (xA6 : Option Addr) (xn6 xc6 : Nat), cellH H_7 ((a.add ((Int.toNat s) * 5)).add 4) = some (.slice xA6 xn6 xc6) ∧ CallH P N.slices_Clone_uint64uint64 [.slice xA6 xn6 xc6] H_7 fun v3 H_8 =>
 ∃ (rA3 : Option Addr) (rn3 rc3 : Nat), v3 = .slice rA3 rn3 rc3 ∧ cellH H_8 (((Addr.mk H.size 0 none)).add 4) = some (.slice xA4 xn4 xc4) ∧ ∃ a2 : Addr, xA4 = some a2 ∧ 0 ≤ s ∧ s < ((xn4 : Nat) : Int) ∧ MayWrite H_8 ((a2.add ((Int.toNat s) * 5)).add 4) 1 ∧ NewH (setH H_8 ((a2.add ((Int.toNat s) * 5)).add 4) (.slice rA3 rn3 rc3)) fun H_9 =>
 next (IntKind.i64.wrap (s + 1)) H_9)
  (∃ (xA7 : Option Addr) (xn7 xc7 : Nat), cellH H_7 (((Addr.mk H.size 0 none)).add 5) = some (.slice xA7 xn7 xc7) ∧ CallH P N.slices_Clone_LLuint64Luint64 [.slice xA7 xn7 xc7] H_7 fun v4 H_10 =>
 ∃ (rA4 : Option Addr) (rn4 rc4 : Nat), v4 = .slice rA4 rn4 rc4 ∧ MayWrite H_10 (((Addr.mk H.size 0 none)).add 5) 1 ∧ NewH (setH H_10 (((Addr.mk H.size 0 none)).add 5) (.slice rA4 rn4 rc4)) fun H_11 =>
 ∃ (xA8 : Option Addr) (xn8 xc8 : Nat), cellH H_11 (((Addr.mk H.size 0 none)).add 5) = some (.slice xA8 xn8 xc8) ∧ LoopI (σ := Int) (fun κ => κ 0 H_11) fun s2 z2 H_12 next2 =>
 cond (decide (s2 < ((xn8 : Nat) : Int))) (∃ (xA9 : Option Addr) (xn9 xc9 : Nat), cellH H_12 (((Addr.mk H.size 0 none)).add 5) = some (.slice xA9 xn9 xc9) ∧ ∃ (xA10 : Option Addr) (xn10 xc10 : Nat), cellH H_12 (((Addr.mk H.size 0 none)).add 5) = some (.slice xA10 xn10 xc10) ∧ ∃ a3 : Addr, xA10 = some a3 ∧ 0 ≤ s2 ∧ s2 < ((xn10 : Nat) : Int) ∧ ∃ (xA11 : Option Addr) (xn11 xc11 : Nat), cellH H_12 (a3.add (Int.toNat s2)) = some (.slice xA11 xn11 xc11) ∧ CallH P N.slices_Clone_uint64uint64 [.slice xA11 xn11 xc11] H_12 fun v5 H_13 =>
 ∃ (rA5 : Option Addr) (rn5 rc5 : Nat), v5 = .slice rA5 rn5 rc5 ∧ cellH H_13 (((Addr.mk H.size 0 none)).add 5) = some (.slice xA9 xn9 xc9) ∧ ∃ a4 : Addr, xA9 = some a4 ∧ 0 ≤ s2 ∧ s2 < ((xn9 : Nat) : Int) ∧ MayWrite H_13 (a4.add (Int.toNat s2)) 1 ∧ NewH (setH H_13 (a4.add (Int.toNat s2)) (.slice rA5 rn5 rc5)) fun H_14 =>
 next2 (IntKind.i64.wrap (s2 + 1)) H_14)
  (∃ (xA12 : Option Addr) (xn12 xc12 : Nat), cellH H_12 (((Addr.mk H.size 0 none)).add 7) = some (.slice xA12 xn12 xc12) ∧ CallH P N.slices_Clone_juntoapiSentjuntoapiSent [.slice xA12 xn12 xc12] H_12 fun v6 H_15 =>
 ∃ (rA6 : Option Addr) (rn6 rc6 : Nat), v6 = .slice rA6 rn6 rc6 ∧ MayWrite H_15 (((Addr.mk H.size 0 none)).add 7) 1 ∧ NewH (setH H_15 (((Addr.mk H.size 0 none)).add 7) (.slice rA6 rn6 rc6)) fun H_16 =>
 ∃ (xA13 : Option Addr) (xn13 xc13 : Nat), cellH H_16 (((Addr.mk H.size 0 none)).add 7) = some (.slice xA13 xn13 xc13) ∧ LoopI (σ := Int) (fun κ => κ 0 H_16) fun s3 z3 H_17 next3 =>
 cond (decide (s3 < ((xn13 : Nat) : Int))) (∃ (xA14 : Option Addr) (xn14 xc14 : Nat), cellH H_17 (((Addr.mk H.size 0 none)).add 7) = some (.slice xA14 xn14 xc14) ∧ ∃ (xA15 : Option Addr) (xn15 xc15 : Nat), cellH H_17 (((Addr.mk H.size 0 none)).add 7) = some (.slice xA15 xn15 xc15) ∧ ∃ a5 : Addr, xA15 = some a5 ∧ 0 ≤ s3 ∧ s3 < ((xn15 : Nat) : Int) ∧ ∃ (xA16 : Option Addr) (xn16 xc16 : Nat), cellH H_17 ((a5.add ((Int.toNat s3) * 4)).add 3) = some (.slice xA16 xn16 xc16) ∧ CallH P N.slices_Clone_uint64uint64 [.slice xA16 xn16 xc16] H_17 fun v7 H_18 =>
 ∃ (rA7 : Option Addr) (rn7 rc7 : Nat), v7 = .slice rA7 rn7 rc7 ∧ cellH H_18 (((Addr.mk H.size 0 none)).add 7) = some (.slice xA14 xn14 xc14) ∧ ∃ a6 : Addr, xA14 = some a6 ∧ 0 ≤ s3 ∧ s3 < ((xn14 : Nat) : Int) ∧ MayWrite H_18 ((a6.add ((Int.toNat s3) * 4)).add 3) 1 ∧ NewH (setH H_18 ((a6.add ((Int.toNat s3) * 4)).add 3) (.slice rA7 rn7 rc7)) fun H_19 =>
 next3 (IntKind.i64.wrap (s3 + 1)) H_19)
  (∃ x0 : Int, ∃ x1 : Int, ∃ x2 : Int, ∃ (x3A : Option Addr) (x3n x3c : Nat), ∃ (x4A : Option Addr) (x4n x4c : Nat), ∃ (x5A : Option Addr) (x5n x5c : Nat), ∃ x6 : Int, ∃ (x7A : Option Addr) (x7n x7c : Nat), cellH H_17 (Addr.mk H.size 0 none) = some (.int .u64 x0) ∧ cellH H_17 (((Addr.mk H.size 0 none)).add 1) = some (.int .i64 x1) ∧ cellH H_17 (((Addr.mk H.size 0 none)).add 2) = some (.int .i64 x2) ∧ cellH H_17 (((Addr.mk H.size 0 none)).add 3) = some (.slice x3A x3n x3c) ∧ cellH H_17 (((Addr.mk H.size 0 none)).add 4) = some (.slice x4A x4n x4c) ∧ cellH H_17 (((Addr.mk H.size 0 none)).add 5) = some (.slice x5A x5n x5c) ∧ cellH H_17 (((Addr.mk H.size 0 none)).add 6) = some (.int .i64 x6) ∧ cellH H_17 (((Addr.mk H.size 0 none)).add 7) = some (.slice x7A x7n x7c) ∧ MayWrite H_17 (Addr.mk H_.size 0 none) 8 ∧ NewH (setH (setH (setH (setH (setH (setH (setH (setH H_17 (Addr.mk H_.size 0 none) (.int .u64 x0)) (((Addr.mk H_.size 0 none)).add 1) (.int .i64 x1)) (((Addr.mk H_.size 0 none)).add 2) (.int .i64 x2)) (((Addr.mk H_.size 0 none)).add 3) (.slice x3A x3n x3c)) (((Addr.mk H_.size 0 none)).add 4) (.slice x4A x4n x4c)) (((Addr.mk H_.size 0 none)).add 5) (.slice x5A x5n x5c)) (((Addr.mk H_.size 0 none)).add 6) (.int .i64 x6)) (((Addr.mk H_.size 0 none)).add 7) (.slice x7A x7n x7c)) fun H_20 =>
 ∃ x02 : Int, ∃ x12 : Int, ∃ x22 : Int, ∃ (x3A2 : Option Addr) (x3n2 x3c2 : Nat), ∃ (x4A2 : Option Addr) (x4n2 x4c2 : Nat), ∃ (x5A2 : Option Addr) (x5n2 x5c2 : Nat), ∃ x62 : Int, ∃ (x7A2 : Option Addr) (x7n2 x7c2 : Nat), cellH H_20 (Addr.mk H_.size 0 none) = some (.int .u64 x02) ∧ cellH H_20 (((Addr.mk H_.size 0 none)).add 1) = some (.int .i64 x12) ∧ cellH H_20 (((Addr.mk H_.size 0 none)).add 2) = some (.int .i64 x22) ∧ cellH H_20 (((Addr.mk H_.size 0 none)).add 3) = some (.slice x3A2 x3n2 x3c2) ∧ cellH H_20 (((Addr.mk H_.size 0 none)).add 4) = some (.slice x4A2 x4n2 x4c2) ∧ cellH H_20 (((Addr.mk H_.size 0 none)).add 5) = some (.slice x5A2 x5n2 x5c2) ∧ cellH H_20 (((Addr.mk H_.size 0 none)).add 6) = some (.int .i64 x62) ∧ cellH H_20 (((Addr.mk H_.size 0 none)).add 7) = some (.slice x7A2 x7n2 x7c2) ∧ R (.agg #[.int .u64 x02, .int .i64 x12, .int .i64 x22, .slice x3A2 x3n2 x3c2, .slice x4A2 x4n2 x4c2, .slice x5A2 x5n2 x5c2, .int .i64 x62, .slice x7A2 x7n2 x7c2]) H_20)))
theorem net_Clone.ok (w_0 : Int) (w_1 : Int) (w_2 : Int) (w_3A : Option Addr) (w_3n w_3c : Nat) (w_4A : Option Addr) (w_4n w_4c : Nat) (w_5A : Option Addr) (w_5n w_5c : Nat) (w_6 : Int) (w_7A : Option Addr) (w_7n w_7c : Nat) (H : Heap) (R : Value → Heap → Prop) (h : net_Clone.W w_0 w_1 w_2 w_3A w_3n w_3c w_4A w_4n w_4c w_5A w_5n w_5c w_6 w_7A w_7n w_7c H R) : CallH P N.net_Clone [.agg #[.int .u64 w_0, .int .i64 w_1, .int .i64 w_2, .slice w_3A w_3n w_3c, .slice w_4A w_4n w_4c, .slice w_5A w_5n w_5c, .int .i64 w_6, .slice w_7A w_7n w_7c]] H R :=
 okW Try.func42 (by kernel_rfl) Try.ntmps42 net_Clone.A (by kernel_rfl) (by kernel_rfl) h
def net_Lay.A : Ann where
 loops := fun i => match i with
   | _ => []
 plans := fun i => match i with
   | 1 => .first 1 (.first 4 (.read 0 (.read 2 (.alt 3 [2] (.first 5 (.alt 6 [0] (.first 7 (.done)) (.stop))) (.stop)))))
   | _ => .stop
def net_Lay.W (s_0 : Int) (s_1 : Int) (s_2 : Int) (tapesA : Option Addr) (tapesn tapesc : Nat) (swapf : Nat) (swapa swapb : Array Value) (H : Heap) (R : Value → Heap → Prop) : Prop :=
 NewH (H.push (.cells #[.int .u64 s_0, .int .i64 s_1, .int .i64 s_2] 24 (0, 0))) fun H_ =>
 ∃ x0 : Int, ∃ x1 : Int, ∃ x2 : Int, cellH H_ (Addr.mk H.size 0 none) = some (.int .u64 x0) ∧ cellH H_ (((Addr.mk H.size 0 none)).add 1) = some (.int .i64 x1) ∧ cellH H_ (((Addr.mk H.size 0 none)).add 2) = some (.int .i64 x2) ∧ ∃ x : Int, cellH H_ (((Addr.mk H.size 0 none)).add 1) = some (.int .i64 x) ∧ 0 ≤ x ∧ x ≤ x ∧ x * 24 ≤ 2 ^ 48 ∧ x < 2 ^ 62 ∧ NewH (H_.push (.cells (repl (Int.toNat x) [.slice none 0 0]).toArray 47 (0, 0))) fun H_2 =>
 cellH H_2 (Addr.mk H.size 0 none) = some (.int .u64 x0) ∧ cellH H_2 (((Addr.mk H.size 0 none)).add 1) = some (.int .i64 x1) ∧ cellH H_2 (((Addr.mk H.size 0 none)).add 2) = some (.int .i64 x2) ∧ NewH (H_2.push (.cells #[.int .u64 x0, .int .i64 x1, .int .i64 x2, .slice (some (Addr.mk H_.size 0 none)) (Int.toNat x) (Int.toNat x), .func (.func swapf) swapa swapb] 78 (0, 0))) fun H_3 =>
 ∃ (xA : Option Addr) (xn xc : Nat), cellH H_3 (((Addr.mk H_2.size 0 none)).add 3) = some (.slice xA xn xc) ∧ CopyV 1 H_3 xA xn tapesA tapesn fun m H_4 =>
 R (.pointer (some (Addr.mk H_2.size 0 none))) H_4
theorem net_Lay.ok (s_0 : Int) (s_1 : Int) (s_2 : Int) (tapesA : Option Addr) (tapesn tapesc : Nat) (swapf : Nat) (swapa swapb : Array Value) (H : Heap) (R : Value → Heap → Prop) (h : net_Lay.W s_0 s_1 s_2 tapesA tapesn tapesc swapf swapa swapb H R) : CallH P N.net_Lay [.agg #[.int .u64 s_0, .int .i64 s_1, .int .i64 s_2], .slice tapesA tapesn tapesc, .func (.func swapf) swapa swapb] H R :=
 okW Try.func43 (by kernel_rfl) Try.ntmps43 net_Lay.A (by kernel_rfl) (by kernel_rfl) h
def net_Play_1.A : Ann where
 loops := fun i => match i with
   | _ => []
 plans := fun i => match i with
   | _ => .stop
def net_Play_1.W (privateA : Option Addr) (privaten privatec : Nat) (saidA : Option Addr) (saidn saidc : Nat) (c0 : Addr) (H : Heap) (R : Value → Heap → Prop) : Prop :=
 CallH P N.net_swap [.pointer (some c0), .slice privateA privaten privatec, .slice saidA saidn saidc] H fun v H_ =>
 ∃ (r0A : Option Addr) (r0n r0c : Nat), ∃ (r1A : Option Addr) (r1n r1c : Nat), v = .tuple #[.slice r0A r0n r0c, .slice r1A r1n r1c] ∧ R (.tuple #[.slice r0A r0n r0c, .slice r1A r1n r1c]) H_
theorem net_Play_1.ok (privateA : Option Addr) (privaten privatec : Nat) (saidA : Option Addr) (saidn saidc : Nat) (c0 : Addr) (H : Heap) (R : Value → Heap → Prop) (h : net_Play_1.W privateA privaten privatec saidA saidn saidc c0 H R) : CallH P N.net_Play_1 [.slice privateA privaten privatec, .slice saidA saidn saidc, .pointer (some c0)] H R :=
 okW Try.func44 (by kernel_rfl) Try.ntmps44 net_Play_1.A (by kernel_rfl) (by kernel_rfl) h
def net_swap.A : Ann where
 loops := fun i => match i with
   | 20489 => [(35, .int .i64)]
   | 53269 => [(61, .int .i64)]
   | 69652 => [(76, .int .i64)]
   | _ => []
 plans := fun i => match i with
   | 7 => .first 0 (.read 1 (.read 2 (.first 3 (.first 4 (.read 5 (.first 6 (.done)))))))
   | 19 => .first 0 (.first 1 (.first 2 (.first 4 (.first 5 (.first 6 (.first 7 (.first 8 (.first 9 (.first 10 (.first 11 (.first 12 (.first 14 (.read 3 (.read 13 (.first 15 (.read 16 (.alt 17 [13, 16] (.first 18 (.alt 19 [3] (.done) (.stop))) (.stop))))))))))))))))))
   | _ => .stop
def net_swap.W (w : Addr) (privateA : Option Addr) (privaten privatec : Nat) (saidA : Option Addr) (saidn saidc : Nat) (H : Heap) (R : Value → Heap → Prop) : Prop :=
 NewH (H.push (.cells #[.pointer (some w)] 84 (0, 0))) fun H_ =>
 ∃ x : Addr, cellH H_ (Addr.mk H.size 0 none) = some (.pointer (some x)) ∧ ∃ x2 : Int, cellH H_ (x.add 1) = some (.int .i64 x2) ∧ ∃ x3 : Addr, cellH H_ (Addr.mk H.size 0 none) = some (.pointer (some x3)) ∧ ∃ x4 : Int, cellH H_ (x3.add 6) = some (.int .i64 x4) ∧ MayWrite H_ (x3.add 6) 1 ∧ NewH (setH H_ (x3.add 6) (.int .i64 (IntKind.i64.wrap (x4 + 1)))) fun H_2 =>
 NewH (H_2.push (.map #[] 0)) fun H_3 =>
 NewH (H_3.push (.cells #[.map none] 95 (0, 0))) fun H_4 =>
 MayWrite H_4 (Addr.mk H_3.size 0 none) 1 ∧ NewH (setH H_4 (Addr.mk H_3.size 0 none) (.map (some H_2.size))) fun H_5 =>
 ∃ x5 : Addr, cellH H_5 (Addr.mk H.size 0 none) = some (.pointer (some x5)) ∧ ∃ (xA : Option Addr) (xn xc : Nat), cellH H_5 (x5.add 4) = some (.slice xA xn xc) ∧ LoopI (σ := Int) (fun κ => κ 0 H_5) fun s z H_6 next =>
 cond (decide (s < ((xn : Nat) : Int))) (∃ a : Addr, xA = some a ∧ 0 ≤ s ∧ s < ((xn : Nat) : Int) ∧ ∃ x0 : Int, ∃ x1 : Int, ∃ x22 : Int, ∃ x32 : Bool, ∃ (x4A : Option Addr) (x4n x4c : Nat), cellH H_6 (a.add ((Int.toNat s) * 5)) = some (.int .i64 x0) ∧ cellH H_6 ((a.add ((Int.toNat s) * 5)).add 1) = some (.int .i64 x1) ∧ cellH H_6 ((a.add ((Int.toNat s) * 5)).add 2) = some (.int .i64 x22) ∧ cellH H_6 ((a.add ((Int.toNat s) * 5)).add 3) = some (.bool x32) ∧ cellH H_6 ((a.add ((Int.toNat s) * 5)).add 4) = some (.slice x4A x4n x4c) ∧ NewH (H_6.push (.cells #[.int .i64 0, .int .i64 0, .int .i64 0, .bool false, .slice none 0 0] 60 (0, 0))) fun H_7 =>
 MayWrite H_7 (Addr.mk H_6.size 0 none) 5 ∧ NewH (setH (setH (setH (setH (setH H_7 (Addr.mk H_6.size 0 none) (.int .i64 x0)) (((Addr.mk H_6.size 0 none)).add 1) (.int .i64 x1)) (((Addr.mk H_6.size 0 none)).add 2) (.int .i64 x22)) (((Addr.mk H_6.size 0 none)).add 3) (.bool x32)) (((Addr.mk H_6.size 0 none)).add 4) (.slice x4A x4n x4c)) fun H_8 =>
 ∃ x6 : Int, cellH H_8 (Addr.mk H_6.size 0 none) = some (.int .i64 x6) ∧ ∃ x7 : Addr, cellH H_8 (Addr.mk H.size 0 none) = some (.pointer (some x7)) ∧ ∃ x8 : Int, cellH H_8 (x7.add 6) = some (.int .i64 x8) ∧ cond (x6 == x8) (∃ x9 : Nat, cellH H_8 (Addr.mk H_3.size 0 none) = some (.map (some x9)) ∧ ∃ x10 : Int, cellH H_8 (((Addr.mk H_6.size 0 none)).add 1) = some (.int .i64 x10) ∧ ∃ x11 : Int, cellH H_8 (((Addr.mk H_6.size 0 none)).add 2) = some (.int .i64 x11) ∧ ∃ x02 : Int, ∃ x12 : Int, ∃ x23 : Int, ∃ x33 : Bool, ∃ (x4A2 : Option Addr) (x4n2 x4c2 : Nat), cellH H_8 (Addr.mk H_6.size 0 none) = some (.int .i64 x02) ∧ cellH H_8 (((Addr.mk H_6.size 0 none)).add 1) = some (.int .i64 x12) ∧ cellH H_8 (((Addr.mk H_6.size 0 none)).add 2) = some (.int .i64 x23) ∧ cellH H_8 (((Addr.mk H_6.size 0 none)).add 3) = some (.bool x33) ∧ cellH H_8 (((Addr.mk H_6.size 0 none)).add 4) = some (.slice x4A2 x4n2 x4c2) ∧ SemU P (Instr.mapUpdate 95 (.map (some x9)) (.agg #[.int .i64 x10, .int .i64 x11]) (.agg #[.int .i64 x02, .int .i64 x12, .int .i64 x23, .bool x33, .slice x4A2 x4n2 x4c2])) H_8 fun H_9 =>
 next (IntKind.i64.wrap (s + 1)) H_9)
  (next (IntKind.i64.wrap (s + 1)) H_8))
  (CallH P N.net_Blank [.int .i64 x2] H_6 fun v H_10 =>
 ∃ (r0A : Option Addr) (r0n r0c : Nat), ∃ (r1A : Option Addr) (r1n r1c : Nat), v = .tuple #[.slice r0A r0n r0c, .slice r1A r1n r1c] ∧ LoopI (σ := Int) (fun κ => κ 0 H_10) fun s2 z2 H_11 next2 =>
 cond (decide (s2 < x2)) (∃ a2 : Addr, saidA = some a2 ∧ 0 ≤ s2 ∧ s2 < ((saidn : Nat) : Int) ∧ ∃ (xA2 : Option Addr) (xn2 xc2 : Nat), cellH H_11 (a2.add (Int.toNat s2)) = some (.slice xA2 xn2 xc2) ∧ CallH P N.net_swap_1 [.int .i64 (IntKind.i64.wrap (s2 + 1)), .int .i64 0, .slice xA2 xn2 xc2, .pointer (some (Addr.mk H_3.size 0 none)), .pointer (some (Addr.mk H.size 0 none))] H_11 fun v2 H_12 =>
 ∃ (rA : Option Addr) (rn rc : Nat), v2 = .slice rA rn rc ∧ ∃ a3 : Addr, r1A = some a3 ∧ 0 ≤ s2 ∧ s2 < ((r1n : Nat) : Int) ∧ MayWrite H_12 (a3.add (Int.toNat s2)) 1 ∧ NewH (setH H_12 (a3.add (Int.toNat s2)) (.slice rA rn rc)) fun H_13 =>
 LoopI (σ := Int) (fun κ => κ 0 H_13) fun s3 z3 H_14 next3 =>
 cond (decide (s3 < x2)) (∃ a4 : Addr, r0A = some a4 ∧ 0 ≤ s3 ∧ s3 < ((r0n : Nat) : Int) ∧ ∃ a5 : Addr, privateA = some a5 ∧ 0 ≤ s2 ∧ s2 < ((privaten : Nat) : Int) ∧ ∃ (xA3 : Option Addr) (xn3 xc3 : Nat), cellH H_14 (a4.add (Int.toNat s3)) = some (.slice xA3 xn3 xc3) ∧ ∃ (xA4 : Option Addr) (xn4 xc4 : Nat), cellH H_14 (a5.add (Int.toNat s2)) = some (.slice xA4 xn4 xc4) ∧ ∃ a6 : Addr, xA4 = some a6 ∧ 0 ≤ s3 ∧ s3 < ((xn4 : Nat) : Int) ∧ ∃ (xA5 : Option Addr) (xn5 xc5 : Nat), cellH H_14 (a6.add (Int.toNat s3)) = some (.slice xA5 xn5 xc5) ∧ CallH P N.net_swap_1 [.int .i64 (IntKind.i64.wrap (s2 + 1)), .int .i64 (IntKind.i64.wrap (s3 + 1)), .slice xA5 xn5 xc5, .pointer (some (Addr.mk H_3.size 0 none)), .pointer (some (Addr.mk H.size 0 none))] H_14 fun v3 H_15 =>
 ∃ (rA2 : Option Addr) (rn2 rc2 : Nat), v3 = .slice rA2 rn2 rc2 ∧ cellH H_15 (a4.add (Int.toNat s3)) = some (.slice xA3 xn3 xc3) ∧ ∃ a7 : Addr, xA3 = some a7 ∧ 0 ≤ s2 ∧ s2 < ((xn3 : Nat) : Int) ∧ MayWrite H_15 (a7.add (Int.toNat s2)) 1 ∧ NewH (setH H_15 (a7.add (Int.toNat s2)) (.slice rA2 rn2 rc2)) fun H_16 =>
 next3 (IntKind.i64.wrap (s3 + 1)) H_16)
  (next2 (IntKind.i64.wrap (s2 + 1)) H_14))
  (R (.tuple #[.slice r0A r0n r0c, .slice r1A r1n r1c]) H_11))
theorem net_swap.ok (w : Addr) (privateA : Option Addr) (privaten privatec : Nat) (saidA : Option Addr) (saidn saidc : Nat) (H : Heap) (R : Value → Heap → Prop) (h : net_swap.W w privateA privaten privatec saidA saidn saidc H R) : CallH P N.net_swap [.pointer (some w), .slice privateA privaten privatec, .slice saidA saidn saidc] H R :=
 okW Try.func45 (by kernel_rfl) Try.ntmps45 net_swap.A (by kernel_rfl) (by kernel_rfl) h
def net_Blank.A : Ann where
 loops := fun i => match i with
   | 12294 => [(10, .int .i64)]
   | _ => []
 plans := fun i => match i with
   | 7 => .first 0 (.first 1 (.first 3 (.alt 2 [] (.first 4 (.done)) (.stop))))
   | _ => .stop
def net_Blank.W (n : Int) (H : Heap) (R : Value → Heap → Prop) : Prop :=
 0 ≤ n ∧ n ≤ n ∧ n * 24 ≤ 2 ^ 48 ∧ n < 2 ^ 62 ∧ NewH (H.push (.cells (repl (Int.toNat n) [.slice none 0 0]).toArray 27 (0, 0))) fun H_ =>
 LoopI (σ := Int) (fun κ => κ 0 H_) fun s z H_2 next =>
 cond (decide (s < ((Int.toNat n : Nat) : Int))) (0 ≤ n ∧ n ≤ n ∧ n * 24 ≤ 2 ^ 48 ∧ n < 2 ^ 62 ∧ NewH (H_2.push (.cells (repl (Int.toNat n) [.slice none 0 0]).toArray 47 (0, 0))) fun H_3 =>
 ∃ a : Addr, (some (Addr.mk H.size 0 none) : Option Addr) = some a ∧ 0 ≤ s ∧ s < ((Int.toNat n : Nat) : Int) ∧ MayWrite H_3 (a.add (Int.toNat s)) 1 ∧ NewH (setH H_3 (a.add (Int.toNat s)) (.slice (some (Addr.mk H_2.size 0 none)) (Int.toNat n) (Int.toNat n))) fun H_4 =>
 next (IntKind.i64.wrap (s + 1)) H_4)
  (0 ≤ n ∧ n ≤ n ∧ n * 24 ≤ 2 ^ 48 ∧ n < 2 ^ 62 ∧ NewH (H_2.push (.cells (repl (Int.toNat n) [.slice none 0 0]).toArray 47 (0, 0))) fun H_5 =>
 R (.tuple #[.slice (some (Addr.mk H.size 0 none)) (Int.toNat n) (Int.toNat n), .slice (some (Addr.mk H_2.size 0 none)) (Int.toNat n) (Int.toNat n)]) H_5)
theorem net_Blank.ok (n : Int) (H : Heap) (R : Value → Heap → Prop) (h : net_Blank.W n H R) : CallH P N.net_Blank [.int .i64 n] H R :=
 okW Try.func52 (by kernel_rfl) Try.ntmps52 net_Blank.A (by kernel_rfl) (by kernel_rfl) h
def net_Table_Round.A : Ann where
 loops := fun i => match i with
   | _ => []
 plans := fun i => match i with
   | _ => .stop
def net_Table_Round.W (t : Addr) (privateA : Option Addr) (privaten privatec : Nat) (saidA : Option Addr) (saidn saidc : Nat) (H : Heap) (R : Value → Heap → Prop) : Prop :=
 ∃ (xf : Nat) (xa xb : Array Value), cellH H (t.add 4) = some (.func (.func xf) xa xb) ∧ cond (hasB nf xf) (CallH P xf (xa.toList ++ [.slice privateA privaten privatec, .slice saidA saidn saidc] ++ xb.toList) H fun v H_ =>
 ∃ (r0A : Option Addr) (r0n r0c : Nat), ∃ (r1A : Option Addr) (r1n r1c : Nat), v = .tuple #[.slice r0A r0n r0c, .slice r1A r1n r1c] ∧ R (.tuple #[.slice r0A r0n r0c, .slice r1A r1n r1c]) H_) False
theorem net_Table_Round.ok (t : Addr) (privateA : Option Addr) (privaten privatec : Nat) (saidA : Option Addr) (saidn saidc : Nat) (H : Heap) (R : Value → Heap → Prop) (h : net_Table_Round.W t privateA privaten privatec saidA saidn saidc H R) : CallH P N.net_Table_Round [.pointer (some t), .slice privateA privaten privatec, .slice saidA saidn saidc] H R :=
 okW Try.func53 (by kernel_rfl) Try.ntmps53 net_Table_Round.A (by kernel_rfl) (by kernel_rfl) h
def net_swap_1.A : Ann where
 loops := fun i => match i with
   | _ => []
 plans := fun i => match i with
   | 7 => .first 9 (.first 10 (.first 11 (.read 0 (.read 1 (.first 2 (.first 3 (.read 4 (.read 5 (.first 6 (.first 7 (.read 8 (.alt 12 [] (.first 13 (.alt 14 [5, 8] (.alt 15 [1, 4] (.first 16 (.first 17 (.alt 18 [0] (.done) (.stop)))) (.stop)) (.stop))) (.stop)))))))))))))
   | _ => .stop
def net_swap_1.W (from_ : Int) (to_ : Int) (dataA : Option Addr) (datan datac : Nat) (c0 : Addr) (c1 : Addr) (H : Heap) (R : Value → Heap → Prop) : Prop :=
 ∃ x : Nat, cellH H c0 = some (.map (some x)) ∧ SemV P (Instr.lookup 95 (.map (some x)) (.agg #[.int .i64 from_, .int .i64 to_]) true) H fun v H_ =>
 ∃ v00 : Int, ∃ v01 : Int, ∃ v02 : Int, ∃ v03 : Bool, ∃ (v04A : Option Addr) (v04n v04c : Nat), ∃ v1 : Bool, v = .tuple #[.agg #[.int .i64 v00, .int .i64 v01, .int .i64 v02, .bool v03, .slice v04A v04n v04c], .bool v1] ∧ NewH (H_.push (.cells #[.int .i64 0, .int .i64 0, .int .i64 0, .bool false, .slice none 0 0] 60 (0, 0))) fun H_2 =>
 MayWrite H_2 (Addr.mk H_.size 0 none) 5 ∧ NewH (setH (setH (setH (setH (setH H_2 (Addr.mk H_.size 0 none) (.int .i64 v00)) (((Addr.mk H_.size 0 none)).add 1) (.int .i64 v01)) (((Addr.mk H_.size 0 none)).add 2) (.int .i64 v02)) (((Addr.mk H_.size 0 none)).add 3) (.bool v03)) (((Addr.mk H_.size 0 none)).add 4) (.slice v04A v04n v04c)) fun H_3 =>
 cond v1 (∃ (xA : Option Addr) (xn xc : Nat), cellH H_3 (((Addr.mk H_.size 0 none)).add 4) = some (.slice xA xn xc) ∧ ∃ x2 : Bool, cellH H_3 (((Addr.mk H_.size 0 none)).add 3) = some (.bool x2) ∧ cond x2 (cond (from_ != to_) (cond (decide ((0 : Int) > 0)) (∃ x3 : Addr, cellH H_3 c1 = some (.pointer (some x3)) ∧ ∃ x4 : Addr, cellH H_3 c1 = some (.pointer (some x4)) ∧ ∃ (xA2 : Option Addr) (xn2 xc2 : Nat), cellH H_3 (x4.add 7) = some (.slice xA2 xn2 xc2) ∧ ∃ x5 : Addr, cellH H_3 c1 = some (.pointer (some x5)) ∧ ∃ x6 : Int, cellH H_3 (x5.add 6) = some (.int .i64 x6) ∧ CallH P N.slices_Clone_uint64uint64 [.slice none 0 0] H_3 fun v2 H_4 =>
 ∃ (rA : Option Addr) (rn rc : Nat), v2 = .slice rA rn rc ∧ cellH H_4 (x5.add 6) = some (.int .i64 x6) ∧ cellH H_4 c1 = some (.pointer (some x5)) ∧ cellH H_4 (x4.add 7) = some (.slice xA2 xn2 xc2) ∧ cellH H_4 c1 = some (.pointer (some x4)) ∧ cellH H_4 c1 = some (.pointer (some x3)) ∧ NewH (H_4.push (.cells #[.int .i64 x6, .int .i64 from_, .int .i64 to_, .slice rA rn rc] 57 (0, 0))) fun H_5 =>
 cellH H_5 (x4.add 7) = some (.slice xA2 xn2 xc2) ∧ cellH H_5 c1 = some (.pointer (some x4)) ∧ cellH H_5 c1 = some (.pointer (some x3)) ∧ AppendV 57 4 48 [.int .i64 0, .int .i64 0, .int .i64 0, .slice none 0 0] H_5 xA2 xn2 xc2 (some (Addr.mk H_4.size 0 none)) 1 fun vA vn vc H_6 =>
 cellH H_6 c1 = some (.pointer (some x3)) ∧ MayWrite H_6 (x3.add 7) 1 ∧ NewH (setH H_6 (x3.add 7) (.slice vA vn vc)) fun H_7 =>
 CallH P N.slices_Clone_uint64uint64 [.slice none 0 0] H_7 fun v4 H_8 =>
 ∃ (rA2 : Option Addr) (rn2 rc2 : Nat), v4 = .slice rA2 rn2 rc2 ∧ R (.slice rA2 rn2 rc2) H_8)
  (CallH P N.slices_Clone_uint64uint64 [.slice none 0 0] H_3 fun v5 H_9 =>
 ∃ (rA3 : Option Addr) (rn3 rc3 : Nat), v5 = .slice rA3 rn3 rc3 ∧ R (.slice rA3 rn3 rc3) H_9)) (CallH P N.slices_Clone_uint64uint64 [.slice none 0 0] H_3 fun v6 H_10 =>
 ∃ (rA4 : Option Addr) (rn4 rc4 : Nat), v6 = .slice rA4 rn4 rc4 ∧ R (.slice rA4 rn4 rc4) H_10))
  (cond (from_ != to_) (cond (decide (((xn : Nat) : Int) > 0)) (∃ x7 : Addr, cellH H_3 c1 = some (.pointer (some x7)) ∧ ∃ x8 : Addr, cellH H_3 c1 = some (.pointer (some x8)) ∧ ∃ (xA3 : Option Addr) (xn3 xc3 : Nat), cellH H_3 (x8.add 7) = some (.slice xA3 xn3 xc3) ∧ ∃ x9 : Addr, cellH H_3 c1 = some (.pointer (some x9)) ∧ ∃ x10 : Int, cellH H_3 (x9.add 6) = some (.int .i64 x10) ∧ CallH P N.slices_Clone_uint64uint64 [.slice xA xn xc] H_3 fun v7 H_11 =>
 ∃ (rA5 : Option Addr) (rn5 rc5 : Nat), v7 = .slice rA5 rn5 rc5 ∧ cellH H_11 (x9.add 6) = some (.int .i64 x10) ∧ cellH H_11 c1 = some (.pointer (some x9)) ∧ cellH H_11 (x8.add 7) = some (.slice xA3 xn3 xc3) ∧ cellH H_11 c1 = some (.pointer (some x8)) ∧ cellH H_11 c1 = some (.pointer (some x7)) ∧ NewH (H_11.push (.cells #[.int .i64 x10, .int .i64 from_, .int .i64 to_, .slice rA5 rn5 rc5] 57 (0, 0))) fun H_12 =>
 cellH H_12 (x8.add 7) = some (.slice xA3 xn3 xc3) ∧ cellH H_12 c1 = some (.pointer (some x8)) ∧ cellH H_12 c1 = some (.pointer (some x7)) ∧ AppendV 57 4 48 [.int .i64 0, .int .i64 0, .int .i64 0, .slice none 0 0] H_12 xA3 xn3 xc3 (some (Addr.mk H_11.size 0 none)) 1 fun vA2 vn2 vc2 H_13 =>
 cellH H_13 c1 = some (.pointer (some x7)) ∧ MayWrite H_13 (x7.add 7) 1 ∧ NewH (setH H_13 (x7.add 7) (.slice vA2 vn2 vc2)) fun H_14 =>
 CallH P N.slices_Clone_uint64uint64 [.slice xA xn xc] H_14 fun v9 H_15 =>
 ∃ (rA6 : Option Addr) (rn6 rc6 : Nat), v9 = .slice rA6 rn6 rc6 ∧ R (.slice rA6 rn6 rc6) H_15)
  (CallH P N.slices_Clone_uint64uint64 [.slice xA xn xc] H_3 fun v10 H_16 =>
 ∃ (rA7 : Option Addr) (rn7 rc7 : Nat), v10 = .slice rA7 rn7 rc7 ∧ R (.slice rA7 rn7 rc7) H_16)) (CallH P N.slices_Clone_uint64uint64 [.slice xA xn xc] H_3 fun v11 H_17 =>
 ∃ (rA8 : Option Addr) (rn8 rc8 : Nat), v11 = .slice rA8 rn8 rc8 ∧ R (.slice rA8 rn8 rc8) H_17)))
  (cond (from_ != to_) (cond (decide (((datan : Nat) : Int) > 0)) (∃ x11 : Addr, cellH H_3 c1 = some (.pointer (some x11)) ∧ ∃ x12 : Addr, cellH H_3 c1 = some (.pointer (some x12)) ∧ ∃ (xA4 : Option Addr) (xn4 xc4 : Nat), cellH H_3 (x12.add 7) = some (.slice xA4 xn4 xc4) ∧ ∃ x13 : Addr, cellH H_3 c1 = some (.pointer (some x13)) ∧ ∃ x14 : Int, cellH H_3 (x13.add 6) = some (.int .i64 x14) ∧ CallH P N.slices_Clone_uint64uint64 [.slice dataA datan datac] H_3 fun v12 H_18 =>
 ∃ (rA9 : Option Addr) (rn9 rc9 : Nat), v12 = .slice rA9 rn9 rc9 ∧ cellH H_18 (x13.add 6) = some (.int .i64 x14) ∧ cellH H_18 c1 = some (.pointer (some x13)) ∧ cellH H_18 (x12.add 7) = some (.slice xA4 xn4 xc4) ∧ cellH H_18 c1 = some (.pointer (some x12)) ∧ cellH H_18 c1 = some (.pointer (some x11)) ∧ NewH (H_18.push (.cells #[.int .i64 x14, .int .i64 from_, .int .i64 to_, .slice rA9 rn9 rc9] 57 (0, 0))) fun H_19 =>
 cellH H_19 (x12.add 7) = some (.slice xA4 xn4 xc4) ∧ cellH H_19 c1 = some (.pointer (some x12)) ∧ cellH H_19 c1 = some (.pointer (some x11)) ∧ AppendV 57 4 48 [.int .i64 0, .int .i64 0, .int .i64 0, .slice none 0 0] H_19 xA4 xn4 xc4 (some (Addr.mk H_18.size 0 none)) 1 fun vA3 vn3 vc3 H_20 =>
 cellH H_20 c1 = some (.pointer (some x11)) ∧ MayWrite H_20 (x11.add 7) 1 ∧ NewH (setH H_20 (x11.add 7) (.slice vA3 vn3 vc3)) fun H_21 =>
 CallH P N.slices_Clone_uint64uint64 [.slice dataA datan datac] H_21 fun v14 H_22 =>
 ∃ (rA10 : Option Addr) (rn10 rc10 : Nat), v14 = .slice rA10 rn10 rc10 ∧ R (.slice rA10 rn10 rc10) H_22)
  (CallH P N.slices_Clone_uint64uint64 [.slice dataA datan datac] H_3 fun v15 H_23 =>
 ∃ (rA11 : Option Addr) (rn11 rc11 : Nat), v15 = .slice rA11 rn11 rc11 ∧ R (.slice rA11 rn11 rc11) H_23)) (CallH P N.slices_Clone_uint64uint64 [.slice dataA datan datac] H_3 fun v16 H_24 =>
 ∃ (rA12 : Option Addr) (rn12 rc12 : Nat), v16 = .slice rA12 rn12 rc12 ∧ R (.slice rA12 rn12 rc12) H_24))
theorem net_swap_1.ok (from_ : Int) (to_ : Int) (dataA : Option Addr) (datan datac : Nat) (c0 : Addr) (c1 : Addr) (H : Heap) (R : Value → Heap → Prop) (h : net_swap_1.W from_ to_ dataA datan datac c0 c1 H R) : CallH P N.net_swap_1 [.int .i64 from_, .int .i64 to_, .slice dataA datan datac, .pointer (some c0), .pointer (some c1)] H R :=
 okW Try.func60 (by kernel_rfl) Try.ntmps60 net_swap_1.A (by kernel_rfl) (by kernel_rfl) h
end Go.Proofs.Ytpfpnkaeoedeiaa.Sh
namespace Go.Proofs.Ytpfpnkaeoedeiaa.Sh
open Go.Sx Go.Lf
def net_acts.C (s : TSetup) (corrupted : (List Int)) (l : (List TAct)) (K : Int → Prop) : Prop :=
 ∀ (Z : Nat → Prop) (H : Heap), ∀ (sv : Int), sv = (s.P : Int) → ∀ (corruptedA : Option Addr) (corruptedn corruptedc : Nat), corruptedn = corrupted.length → SlF i64L Z H corruptedA corruptedc corrupted → ∀ (lA : Option Addr) (ln lc : Nat), ln = l.length → SlF TAct.L Z H lA lc l → ∀ KK : Value → Heap → Prop,
   (∀ (Z' : Nat → Prop) (H' : Heap), Ext H H' → Old Z H Z' → ∀ (r0 : Int), K r0 → KK (.int .i64 r0) H') →
   CallH P N.net_acts [.agg #[.int .u64 sv, .int .i64 s.N, .int .i64 s.T_], .slice corruptedA corruptedn corruptedc, .slice lA ln lc] H KK
def net_acts.Q (s : TSetup) (corrupted : (List Int)) (l : (List TAct)) (K : Int → Prop) : Prop :=
 cond (decide (((l.length : Nat) : Int) > 65536)) (K 3)
  (LoopQ (τ := Int × List ((Int × Int × Int) × Bool)) (0, ([] : List ((Int × Int × Int) × Bool))) fun t nextQ =>
 cond (decide (t.1 < ((l.length : Nat) : Int))) (0 ≤ t.1 ∧ ∃ x : TAct, l[Int.toNat t.1]? = some x ∧ slices_Contains_intint.C corrupted x.From (fun (x2 : Bool) =>
 cond (!x2) (K 2)
  (cond (decide (x.To < 0)) (K 2)
  (cond (decide (x.To > s.N)) (K 2)
  (cond (x.To == x.From) (K 2)
  (cond (decide (x.Round < 1)) (K 2)
  (cond (decide (((x.Data.length : Nat) : Int) > 65536)) (K 3)
  (∃ x3 : Bool, x3 = mgetD t.2 (x.Round, x.From, x.To) false ∧ cond x3 (K 6)
  (nextQ (IntKind.i64.wrap (t.1 + 1), (mset t.2 (x.Round, x.From, x.To) true)))))))))))
  (K 0))
theorem net_acts.q {s : TSetup} {corrupted : (List Int)} {l : (List TAct)} {K : Int → Prop} (q : net_acts.Q s corrupted l K) : net_acts.C s corrupted l K := by
 intro Z H sv he corruptedA corruptedn corruptedc hn f lA ln lc hn2 f2 KK hk; cases he; cases hn; cases hn2; apply net_acts.ok; unfold net_acts.W; unfold net_acts.Q at q; obtain ⟨σ, hz, hσ⟩ := tags Z; have hs : Stp ([1, 2, 3] : List Nat) σ H σ H := Stp.refl _ _ _; replace f := f.wide hz; replace f2 := f2.wide hz; clear hz; refine NewH.mk fun H_ e => ?_; obtain ⟨xσ, st, b⟩ := BoxF.new σ 0 e; refine condI (fun q => ?_) (fun q => ?_) q
 · replace hs := hs.trans st; exact hk (Zt xσ) _ (hs.ext hσ) (hs.old hσ) _ q
 refine NewH.mk fun H_2 e2 => ?_; obtain ⟨xσ2, st2, f3⟩ := KvO.new xσ Key91.e boolL false 1 e2; refine LoopI.ofQ q (fun t_ s_ hp_ => ∃ σ_, Stp [1, 2, 3] xσ2 H_2 σ_ hp_ ∧ t_.1 = s_ ∧ KvO Key91.e boolL false 1 σ_ hp_ H_.size t_.2) (fun h k => h _ _ k) ⟨_, Stp.refl _ _ _, rfl, f3⟩ ?_; rintro t _ _ H_3 next nextQ ⟨xσ3, st3, rfl, f3⟩ q hnext; (try dsimp only at q ⊢); have sl1 := st3; refine condJ (fun q => ?_) (fun q => ?_) q
 · replace hs := hs.trans (st.then (st2.then st3)); exact hk (Zt xσ3) _ (hs.ext hσ) (hs.old hσ) _ q
 obtain ⟨h0, x, hx, q⟩ := q; replace f2 := f2.step (st.then (st2.then st3)); obtain ⟨a, ha, hi⟩ := f2.addr h0 hx rfl; refine ⟨a, ha, hi.1, hi.2, ?_⟩; obtain ⟨cs, hr, hc⟩ := f2.ldN (k := 5) rfl ha h0 hx; obtain ⟨A, c, rfl, f4⟩ := hr; have hc2 := hc 0 _ rfl; have hc3 := hc 1 _ rfl; have hc4 := hc 2 _ rfl; have hc5 := hc 3 _ rfl; have hc6 := hc 4 _ rfl; refine ⟨_, _, _, _, _, _, _, hc2.val, hc3.val, hc4.val, hc5.val, hc6.val, ?_⟩; refine NewH.mk fun H_4 e3 => ?_; obtain ⟨xσ4, st4, b2⟩ := BoxF.new xσ3 2 e3; refine ⟨b2.mayF rfl, NewH.mk fun H_5 e4 => ?_⟩; obtain ⟨st5, b2⟩ := b2.wf5 rfl e4; refine ⟨_, b2.cell0, ?_⟩; refine ⟨_, b2.cell 1 rfl, ?_⟩; refine ⟨_, b2.cell 2 rfl, ?_⟩; refine NewH.mk fun H_6 e5 => ?_; obtain ⟨xσ5, st6, b3⟩ := BoxF.new xσ4 3 e5; refine ⟨b3.mayF rfl, NewH.mk fun H_7 e6 => ?_⟩; obtain ⟨st7, b3⟩ := b3.wf3 rfl e6; replace b2 := b2.step (st6.then st7); refine ⟨_, b2.cell 1 rfl, ?_⟩; replace f := f.step (st.then (st2.then (st3.then (st4.then (st5.then (st6.then st7)))))); refine q (Zt xσ5) H_7 _ _ _ rfl f _ (fun Z2 H_8 hE hO x2 q => ?_); obtain ⟨xσ6, st8⟩ := call0 hE xσ5; refine ⟨_, rfl, ?_⟩; refine condI (fun q => ?_) (fun q => ?_) q
 · replace hs := hs.trans (st.then (st2.then (st3.then (st4.then (st5.then (st6.then (st7.then st8))))))); exact hk (Zt xσ6) _ (hs.ext hσ) (hs.old hσ) _ q
 replace b2 := b2.step st8; refine ⟨_, b2.cell 2 rfl, ?_⟩; refine condI (fun q => ?_) (fun q => ?_) q
 · replace hs := hs.trans (st.then (st2.then (st3.then (st4.then (st5.then (st6.then (st7.then st8))))))); exact hk (Zt xσ6) _ (hs.ext hσ) (hs.old hσ) _ q
 refine ⟨_, b2.cell 2 rfl, ?_⟩; replace b := b.step (st2.then (st3.then (st4.then (st5.then (st6.then (st7.then st8)))))); refine ⟨_, b.cell 1 rfl, ?_⟩; refine condI (fun q => ?_) (fun q => ?_) q
 · replace hs := hs.trans (st.then (st2.then (st3.then (st4.then (st5.then (st6.then (st7.then st8))))))); exact hk (Zt xσ6) _ (hs.ext hσ) (hs.old hσ) _ q
 refine ⟨_, b2.cell 2 rfl, ?_⟩; refine ⟨_, b2.cell 1 rfl, ?_⟩; refine condI (fun q => ?_) (fun q => ?_) q
 · replace hs := hs.trans (st.then (st2.then (st3.then (st4.then (st5.then (st6.then (st7.then st8))))))); exact hk (Zt xσ6) _ (hs.ext hσ) (hs.old hσ) _ q
 refine ⟨_, b2.cell0, ?_⟩; refine condI (fun q => ?_) (fun q => ?_) q
 · replace hs := hs.trans (st.then (st2.then (st3.then (st4.then (st5.then (st6.then (st7.then st8))))))); exact hk (Zt xσ6) _ (hs.ext hσ) (hs.old hσ) _ q
 refine ⟨_, _, _, b2.cell 4 rfl, ?_⟩; refine condI (fun q => ?_) (fun q => ?_) q
 · replace hs := hs.trans (st.then (st2.then (st3.then (st4.then (st5.then (st6.then (st7.then st8))))))); exact hk (Zt xσ6) _ (hs.ext hσ) (hs.old hσ) _ q
 replace b3 := b3.step st8; refine ⟨_, _, _, b3.cell0, b3.cell 1 rfl, b3.cell 2 rfl, ?_⟩; obtain ⟨x3, hx2, q⟩ := q; replace f3 := f3.step (st4.then (st5.then (st6.then (st7.then st8)))); refine KvF.lookD f3.kv Try.underlying90 Key91.ops (x0 := false) (zcs := [.bool false]) Zero4.run (fun _ _ => rfl) false (x.Round, x.From, x.To) (fun cs2 hr2 => ?_); rw [← hx2] at hr2; cases hr2; refine ⟨_, rfl, ?_⟩; refine condI (fun q => ?_) (fun q => ?_) q
 · replace hs := hs.trans (st.then (st2.then (st3.then (st4.then (st5.then (st6.then (st7.then st8))))))); exact hk (Zt xσ6) _ (hs.ext hσ) (hs.old hσ) _ q
 refine ⟨_, _, _, b3.cell0, b3.cell 1 rfl, b3.cell 2 rfl, ?_⟩; refine KvO.put f3 Try.underlying90 Key91.ops (x.Round, x.From, x.To) (x := true) rfl rfl (kk := fun H_9 st9 f3_ => ?_); replace f3 := f3_; replace sl1 := sl1.trans (st4.then (st5.then (st6.then (st7.then (st8.then st9))))); exact hnext (IntKind.i64.wrap (t.1 + 1), (mset t.2 (x.Round, x.From, x.To) true)) _ _ ⟨_, sl1, rfl, f3⟩ q
def net_Check.C (w : TWorld) (K : Int → Prop) : Prop :=
 ∀ (Z : Nat → Prop) (H : Heap), ∀ (wv : Int), wv = (w.Setup.P : Int) → ∀ (wA : Option Addr) (wn wc : Nat), wn = w.Corrupted.length → SlF i64L Z H wA wc w.Corrupted → ∀ (wA2 : Option Addr) (wn2 wc2 : Nat), wn2 = w.Acts.length → SlF TAct.L Z H wA2 wc2 w.Acts → ∀ (wA3 : Option Addr) (wn3 wc3 : Nat), wn3 = w.Tapes.length → SlF (slL u64L) Z H wA3 wc3 w.Tapes → ∀ (wA4 : Option Addr) (wn4 wc4 : Nat), wn4 = w.Sent.length → SlF TSent.L Z H wA4 wc4 w.Sent → ∀ KK : Value → Heap → Prop,
   (∀ (Z' : Nat → Prop) (H' : Heap), Ext H H' → Old Z H Z' → ∀ (r0 : Int), K r0 → KK (.int .i64 r0) H') →
   CallH P N.net_Check [.agg #[.int .u64 wv, .int .i64 w.Setup.N, .int .i64 w.Setup.T_, .slice wA wn wc, .slice wA2 wn2 wc2, .slice wA3 wn3 wc3, .int .i64 w.Round, .slice wA4 wn4 wc4]] H KK
def net_Check.Q (w : TWorld) (K : Int → Prop) : Prop :=
 share_Corrupted.C w.Setup w.Corrupted (fun (x : Int) =>
 cond (x != 0) (K x)
  (cond (((w.Tapes.length : Nat) : Int) != w.Setup.N) (K 2)
  (cond (decide (w.Round < 0)) (K 2)
  (cond (decide (w.Round > 1048576)) (K 2)
  (net_acts.C w.Setup w.Corrupted w.Acts (fun (x2 : Int) =>
 K x2))))))
theorem net_Check.q {w : TWorld} {K : Int → Prop} (q : net_Check.Q w K) : net_Check.C w K := by
 intro Z H wv he wA wn wc hn f wA2 wn2 wc2 hn2 f2 wA3 wn3 wc3 hn3 f3 wA4 wn4 wc4 hn4 f4 KK hk; cases he; cases hn; cases hn2; cases hn3; cases hn4; apply net_Check.ok; unfold net_Check.W; unfold net_Check.Q at q; obtain ⟨σ, hz, hσ⟩ := tags Z; have hs : Stp ([] : List Nat) σ H σ H := Stp.refl _ _ _; replace f := f.wide hz; replace f2 := f2.wide hz; replace f3 := f3.wide hz; replace f4 := f4.wide hz; clear hz; refine NewH.mk fun H_ e => ?_; obtain ⟨xσ, st, b⟩ := BoxF.new σ 0 e; refine ⟨_, _, _, b.cell0, b.cell 1 rfl, b.cell 2 rfl, ?_⟩; refine ⟨_, _, _, b.cell 3 rfl, ?_⟩; replace f := f.step st; refine q (Zt xσ) H_ _ rfl _ _ _ rfl f _ (fun Z2 H_2 hE hO x q => ?_); obtain ⟨xσ2, st2⟩ := call0 hE xσ; refine ⟨_, rfl, ?_⟩; refine condI (fun q => ?_) (fun q => ?_) q
 · replace hs := hs.trans (st.then st2); exact hk (Zt xσ2) _ (hs.ext hσ) (hs.old hσ) _ q
 replace b := b.step st2; refine ⟨_, _, _, b.cell 5 rfl, ?_⟩; refine ⟨_, b.cell 1 rfl, ?_⟩; refine condI (fun q => ?_) (fun q => ?_) q
 · replace hs := hs.trans (st.then st2); exact hk (Zt xσ2) _ (hs.ext hσ) (hs.old hσ) _ q
 refine ⟨_, b.cell 6 rfl, ?_⟩; refine condI (fun q => ?_) (fun q => ?_) q
 · replace hs := hs.trans (st.then st2); exact hk (Zt xσ2) _ (hs.ext hσ) (hs.old hσ) _ q
 refine ⟨_, b.cell 6 rfl, ?_⟩; refine condI (fun q => ?_) (fun q => ?_) q
 · replace hs := hs.trans (st.then st2); exact hk (Zt xσ2) _ (hs.ext hσ) (hs.old hσ) _ q
 refine ⟨_, _, _, b.cell0, b.cell 1 rfl, b.cell 2 rfl, ?_⟩; refine ⟨_, _, _, b.cell 3 rfl, ?_⟩; refine ⟨_, _, _, b.cell 4 rfl, ?_⟩; replace f := f.step st2; replace f2 := f2.step (st.then st2); refine q (Zt xσ2) H_2 _ rfl _ _ _ rfl f _ _ _ rfl f2 _ (fun Z3 H_3 hE2 hO2 x2 q => ?_); obtain ⟨xσ3, st3⟩ := call0 hE2 xσ2; refine ⟨_, rfl, ?_⟩; replace hs := hs.trans (st.then (st2.then st3)); exact hk (Zt xσ3) _ (hs.ext hσ) (hs.old hσ) _ q
def net_Room.C (w : TWorld) (rounds : Int) (K : Int → Prop) : Prop :=
 ∀ (Z : Nat → Prop) (H : Heap), ∀ (wv : Int), wv = (w.Setup.P : Int) → ∀ (wA : Option Addr) (wn wc : Nat), wn = w.Corrupted.length → SlF i64L Z H wA wc w.Corrupted → ∀ (wA2 : Option Addr) (wn2 wc2 : Nat), wn2 = w.Acts.length → SlF TAct.L Z H wA2 wc2 w.Acts → ∀ (wA3 : Option Addr) (wn3 wc3 : Nat), wn3 = w.Tapes.length → SlF (slL u64L) Z H wA3 wc3 w.Tapes → ∀ (wA4 : Option Addr) (wn4 wc4 : Nat), wn4 = w.Sent.length → SlF TSent.L Z H wA4 wc4 w.Sent → ∀ KK : Value → Heap → Prop,
   (∀ (Z' : Nat → Prop) (H' : Heap), Ext H H' → Old Z H Z' → ∀ (r0 : Int), K r0 → KK (.int .i64 r0) H') →
   CallH P N.net_Room [.agg #[.int .u64 wv, .int .i64 w.Setup.N, .int .i64 w.Setup.T_, .slice wA wn wc, .slice wA2 wn2 wc2, .slice wA3 wn3 wc3, .int .i64 w.Round, .slice wA4 wn4 wc4], .int .i64 rounds] H KK
def net_Room.Q (w : TWorld) (rounds : Int) (K : Int → Prop) : Prop :=
 cond (decide ((IntKind.i64.wrap (w.Round + rounds)) > 1048576)) (K 8)
  (K 0)
theorem net_Room.q {w : TWorld} {rounds : Int} {K : Int → Prop} (q : net_Room.Q w rounds K) : net_Room.C w rounds K := by
 intro Z H wv he wA wn wc hn f wA2 wn2 wc2 hn2 f2 wA3 wn3 wc3 hn3 f3 wA4 wn4 wc4 hn4 f4 KK hk; cases he; cases hn; cases hn2; cases hn3; cases hn4; apply net_Room.ok; unfold net_Room.W; unfold net_Room.Q at q; obtain ⟨σ, hz, hσ⟩ := tags Z; have hs : Stp ([] : List Nat) σ H σ H := Stp.refl _ _ _; replace f := f.wide hz; replace f2 := f2.wide hz; replace f3 := f3.wide hz; replace f4 := f4.wide hz; clear hz; refine NewH.mk fun H_ e => ?_; obtain ⟨xσ, st, b⟩ := BoxF.new σ 0 e; refine ⟨_, b.cell 6 rfl, ?_⟩; refine condI (fun q => ?_) (fun q => ?_) q
 · replace hs := hs.trans st; exact hk (Zt xσ) _ (hs.ext hσ) (hs.old hσ) _ q
 replace hs := hs.trans st; exact hk (Zt xσ) _ (hs.ext hσ) (hs.old hσ) _ q
def net_Blank.C (n : Int) (K : (List (List (List Nat))) → (List (List Nat)) → Prop) : Prop :=
 ∀ (Z : Nat → Prop) (H : Heap), ∀ KK : Value → Heap → Prop,
   (∀ (Z' : Nat → Prop) (H' : Heap), Ext H H' → Old Z H Z' → ∀ (r0 : (List (List (List Nat)))), ∀ (Y0 : Nat → Prop), (∀ i, Y0 i → H.size ≤ i ∧ ¬ Z' i) → ∀ (Ar0_0 : Option Addr) (nr0_0 cr0_0 : Nat), nr0_0 = r0.length → SlO (slM (rdM (slL u64L)) 47) 27 Z' Y0 H' Ar0_0 cr0_0 r0 → ∀ (r1 : (List (List Nat))), ∀ (Y1 : Nat → Prop), (∀ i, Y1 i → H.size ≤ i ∧ ¬ Z' i) → ∀ (Ar1_0 : Option Addr) (nr1_0 cr1_0 : Nat), nr1_0 = r1.length → SlO (rdM (slL u64L)) 47 Z' Y1 H' Ar1_0 cr1_0 r1 → (∀ i, Y0 i → ¬ Y1 i) → K r0 r1 → KK (.tuple #[.slice Ar0_0 nr0_0 cr0_0, .slice Ar1_0 nr1_0 cr1_0]) H') →
   CallH P N.net_Blank [.int .i64 n] H KK
def net_Blank.Q (n : Int) (K : (List (List (List Nat))) → (List (List Nat)) → Prop) : Prop :=
 MakeOk 24 n ∧ LoopQ (τ := Int × List (List (List Nat))) (0, (List.replicate (Int.toNat n) [])) fun t nextQ =>
 cond (decide (t.1 < ((Int.toNat n : Nat) : Int))) (MakeOk 24 n ∧ 0 ≤ t.1 ∧ t.1 < ((Int.toNat n : Nat) : Int) ∧ nextQ (IntKind.i64.wrap (t.1 + 1), (List.set t.2 (Int.toNat t.1) (List.replicate (Int.toNat n) []))))
  (MakeOk 24 n ∧ K t.2 (List.replicate (Int.toNat n) []))
theorem net_Blank.q {n : Int} {K : (List (List (List Nat))) → (List (List Nat)) → Prop} (q : net_Blank.Q n K) : net_Blank.C n K := by
 intro Z H  KK hk; apply net_Blank.ok; unfold net_Blank.W; unfold net_Blank.Q at q; obtain ⟨σ, hz, hσ⟩ := tags Z; have hs : Stp ([1, 2, 3] : List Nat) σ H σ H := Stp.refl _ _ _; clear hz; obtain ⟨q2, q⟩ := q; refine ⟨q2.1, Int.le_refl _, q2.w1, q2.w2, NewH.mk fun H_ e => ?_⟩; obtain ⟨xσ, st, f⟩ := SlO.made (O := (slM (rdM (slL u64L)) 47)) σ 1 e (slM_zero _ _) q2.len; refine LoopI.ofQ q (fun t_ s_ hp_ => ∃ σ_, Stp [1, 2] xσ H_ σ_ hp_ ∧ t_.1 = s_ ∧ t_.2.length = (List.replicate (Int.toNat n) []).length ∧ SlO (slM (rdM (slL u64L)) 47) 27 (Zt σ_) (Yt σ_ 1) hp_ (some (Addr.mk H.size 0 none)) (Int.toNat n) t_.2) (fun h k => h _ _ k) ⟨_, Stp.refl _ _ _, rfl, rfl, f⟩ ?_; rintro t _ _ H_2 next nextQ ⟨xσ2, st2, rfl, hl, f⟩ q hnext; (try dsimp only at q ⊢); have sl1 := st2; refine condJ (fun q => ?_) (fun q => ?_) q
 · obtain ⟨q4, q⟩ := q; refine ⟨q4.1, Int.le_refl _, q4.w1, q4.w2, NewH.mk fun H_5 e4 => ?_⟩; obtain ⟨xσ5, st5, f3⟩ := SlO.made (O := (rdM (slL u64L))) xσ2 3 e4 (slL_zero _) q4.len; replace hs := hs.trans (st.then (st2.then st5)); replace f := f.step st5; exact hk (Zt xσ5) _ (hs.ext hσ) (hs.old hσ) _ (Yt xσ5 1) (hs.fresh hσ) _ _ _ ((rl_len _ _).trans hl.symm) f _ (Yt xσ5 3) (hs.fresh hσ) _ _ _ (rl_len _ _) f3 Yt.apart q
 obtain ⟨q3, q⟩ := q; refine ⟨q3.1, Int.le_refl _, q3.w1, q3.w2, NewH.mk fun H_3 e2 => ?_⟩; obtain ⟨xσ3, st3, f2⟩ := SlO.made (O := (rdM (slL u64L))) xσ2 2 e2 (slL_zero _) q3.len; obtain ⟨h0, hi2, q⟩ := q; replace f := f.step st3; obtain ⟨a, ha, hi⟩ := f.addr h0 ((rl_len _ _).trans hl.symm) hi2; refine ⟨a, ha, hi.1, hi.2, ?_⟩; have w := SlO.put f ha h0 (lt_of_n ((rl_len _ _).trans hl.symm) hi2) (rl_len _ _) f2; refine ⟨w.1, NewH.mk fun H_4 e3 => ?_⟩; obtain ⟨xσ4, st4, f⟩ := w.2 H_4 e3; replace sl1 := sl1.trans (st3.then st4); exact hnext (IntKind.i64.wrap (t.1 + 1), (List.set t.2 (Int.toNat t.1) (List.replicate (Int.toNat n) []))) _ _ ⟨_, sl1, rfl, (set_back ((rl_len _ _).trans hl.symm) (set_len ((rl_len _ _).trans hl.symm)) hl), f⟩ q
def net_swap.C (w : TWorld) (private_ : (List (List (List Nat)))) (said : (List (List Nat))) (K : (List (List (List Nat))) → (List (List Nat)) → TWorld → Prop) : Prop :=
 ∀ (Z : Nat → Prop) (τ : Nat → Nat) (H : Heap), (∀ i, τ i ≠ 0 → ¬ Z i) → ∀ (wP : Nat), ∀ (v : Int), v = (w.Setup.P : Int) → ∀ (A : Option Addr) (n c : Nat), n = w.Corrupted.length → SlF i64L Z H A c w.Corrupted → ∀ (A2 : Option Addr) (n2 c2 : Nat), n2 = w.Acts.length → SlF TAct.L Z H A2 c2 w.Acts → ∀ (A3 : Option Addr) (n3 c3 : Nat), n3 = w.Tapes.length → SlO (rdM (slL u64L)) 47 Z (Yt τ 2) H A3 c3 w.Tapes → ∀ (A4 : Option Addr) (n4 c4 : Nat), n4 = w.Sent.length → SlO (rdM TSent.L) 57 Z (Yt τ 3) H A4 c4 w.Sent → BoxF 1 τ H wP [.int .u64 v, .int .i64 w.Setup.N, .int .i64 w.Setup.T_, .slice A n c, .slice A2 n2 c2, .slice A3 n3 c3, .int .i64 w.Round, .slice A4 n4 c4] 30 → ∀ (privateA : Option Addr) (privaten privatec : Nat), privaten = private_.length → SlF (slL (slL u64L)) Z H privateA privatec private_ → ∀ (saidA : Option Addr) (saidn saidc : Nat), saidn = said.length → SlF (slL u64L) Z H saidA saidc said → ∀ KK : Value → Heap → Prop,
   (∀ (Z' : Nat → Prop) (τ' : Nat → Nat) (H' : Heap), Turn τ H τ' H' → OldT Z τ H Z' → (∀ i, τ' i ≠ 0 → ¬ Z' i) → ∀ (r0 : (List (List (List Nat)))), ∀ (Ar0_0 : Option Addr) (nr0_0 cr0_0 : Nat), nr0_0 = r0.length → SlF (slL (slL u64L)) Z' H' Ar0_0 cr0_0 r0 → ∀ (r1 : (List (List Nat))), ∀ (Ar1_0 : Option Addr) (nr1_0 cr1_0 : Nat), nr1_0 = r1.length → SlF (slL u64L) Z' H' Ar1_0 cr1_0 r1 → ∀ (o0 : TWorld), ∀ (vo0_0 : Int), vo0_0 = (o0.Setup.P : Int) → ∀ (Ao0_3 : Option Addr) (no0_3 co0_3 : Nat), no0_3 = o0.Corrupted.length → SlF i64L Z' H' Ao0_3 co0_3 o0.Corrupted → ∀ (Ao0_4 : Option Addr) (no0_4 co0_4 : Nat), no0_4 = o0.Acts.length → SlF TAct.L Z' H' Ao0_4 co0_4 o0.Acts → ∀ (Ao0_5 : Option Addr) (no0_5 co0_5 : Nat), no0_5 = o0.Tapes.length → SlO (rdM (slL u64L)) 47 Z' (Yt τ' 2) H' Ao0_5 co0_5 o0.Tapes → ∀ (Ao0_7 : Option Addr) (no0_7 co0_7 : Nat), no0_7 = o0.Sent.length → SlO (rdM TSent.L) 57 Z' (Yt τ' 3) H' Ao0_7 co0_7 o0.Sent → BoxF 1 τ' H' wP [.int .u64 vo0_0, .int .i64 o0.Setup.N, .int .i64 o0.Setup.T_, .slice Ao0_3 no0_3 co0_3, .slice Ao0_4 no0_4 co0_4, .slice Ao0_5 no0_5 co0_5, .int .i64 o0.Round, .slice Ao0_7 no0_7 co0_7] 30 → K r0 r1 o0 → KK (.tuple #[.slice Ar0_0 nr0_0 cr0_0, .slice Ar1_0 nr1_0 cr1_0]) H') →
   CallH P N.net_swap [.pointer (some (Addr.mk wP 0 none)), .slice privateA privaten privatec, .slice saidA saidn saidc] H KK
def net_swap.Q (w : TWorld) (private_ : (List (List (List Nat)))) (said : (List (List Nat))) (K : (List (List (List Nat))) → (List (List Nat)) → TWorld → Prop) : Prop :=
 LoopQ (τ := Int × List ((Int × Int) × TAct)) (0, ([] : List ((Int × Int) × TAct))) fun t nextQ =>
 cond (decide (t.1 < ((w.Acts.length : Nat) : Int))) (0 ≤ t.1 ∧ ∃ x : TAct, w.Acts[Int.toNat t.1]? = some x ∧ cond (x.Round == (IntKind.i64.wrap (w.Round + 1))) (nextQ (IntKind.i64.wrap (t.1 + 1), (mset t.2 (x.From, x.To) x)))
  (nextQ (IntKind.i64.wrap (t.1 + 1), t.2)))
  (net_Blank.C w.Setup.N (fun (r : (List (List (List Nat)))) (r2 : (List (List Nat))) =>
 LoopQ (τ := Int × TWorld × List (List Nat) × List (List (List Nat))) (0, (⟨w.Setup, w.Corrupted, w.Acts, w.Tapes, IntKind.i64.wrap (w.Round + 1), w.Sent⟩ : TWorld), r2, r) fun t2 nextQ2 =>
 cond (decide (t2.1 < w.Setup.N)) (0 ≤ t2.1 ∧ ∃ x3 : (List Nat), said[Int.toNat t2.1]? = some x3 ∧ JoinQ (fun (J_ : List Nat × TWorld → Prop) =>
 ∃ x4 : TAct, x4 = mgetD t.2 (IntKind.i64.wrap (t2.1 + 1), 0) (⟨0, 0, 0, false, []⟩ : TAct) ∧ cond (mhas t.2 (IntKind.i64.wrap (t2.1 + 1), 0)) (cond x4.Silent (cond ((IntKind.i64.wrap (t2.1 + 1)) != 0) (cond (decide ((0 : Int) > 0)) (slices_Clone_uint64uint64.C ([]) (fun (x5 : (List Nat)) =>
 AppOk 48 (t2.2.1.Sent ++ ([(⟨t2.2.1.Round, IntKind.i64.wrap (t2.1 + 1), 0, x5⟩ : TSent)] : List TSent)).length ∧ slices_Clone_uint64uint64.C ([]) (fun (x6 : (List Nat)) =>
 J_ (x6, (⟨t2.2.1.Setup, t2.2.1.Corrupted, t2.2.1.Acts, t2.2.1.Tapes, t2.2.1.Round, (t2.2.1.Sent ++ ([(⟨t2.2.1.Round, IntKind.i64.wrap (t2.1 + 1), 0, x5⟩ : TSent)] : List TSent))⟩ : TWorld)))))
  (slices_Clone_uint64uint64.C ([]) (fun (x7 : (List Nat)) =>
 J_ (x7, t2.2.1))))
  (slices_Clone_uint64uint64.C ([]) (fun (x8 : (List Nat)) =>
 J_ (x8, t2.2.1))))
  (cond ((IntKind.i64.wrap (t2.1 + 1)) != 0) (cond (decide (((x4.Data.length : Nat) : Int) > 0)) (slices_Clone_uint64uint64.C x4.Data (fun (x9 : (List Nat)) =>
 AppOk 48 (t2.2.1.Sent ++ ([(⟨t2.2.1.Round, IntKind.i64.wrap (t2.1 + 1), 0, x9⟩ : TSent)] : List TSent)).length ∧ slices_Clone_uint64uint64.C x4.Data (fun (x10 : (List Nat)) =>
 J_ (x10, (⟨t2.2.1.Setup, t2.2.1.Corrupted, t2.2.1.Acts, t2.2.1.Tapes, t2.2.1.Round, (t2.2.1.Sent ++ ([(⟨t2.2.1.Round, IntKind.i64.wrap (t2.1 + 1), 0, x9⟩ : TSent)] : List TSent))⟩ : TWorld)))))
  (slices_Clone_uint64uint64.C x4.Data (fun (x11 : (List Nat)) =>
 J_ (x11, t2.2.1))))
  (slices_Clone_uint64uint64.C x4.Data (fun (x12 : (List Nat)) =>
 J_ (x12, t2.2.1)))))
  (cond ((IntKind.i64.wrap (t2.1 + 1)) != 0) (cond (decide (((x3.length : Nat) : Int) > 0)) (slices_Clone_uint64uint64.C x3 (fun (x13 : (List Nat)) =>
 AppOk 48 (t2.2.1.Sent ++ ([(⟨t2.2.1.Round, IntKind.i64.wrap (t2.1 + 1), 0, x13⟩ : TSent)] : List TSent)).length ∧ slices_Clone_uint64uint64.C x3 (fun (x14 : (List Nat)) =>
 J_ (x14, (⟨t2.2.1.Setup, t2.2.1.Corrupted, t2.2.1.Acts, t2.2.1.Tapes, t2.2.1.Round, (t2.2.1.Sent ++ ([(⟨t2.2.1.Round, IntKind.i64.wrap (t2.1 + 1), 0, x13⟩ : TSent)] : List TSent))⟩ : TWorld)))))
  (slices_Clone_uint64uint64.C x3 (fun (x15 : (List Nat)) =>
 J_ (x15, t2.2.1))))
  (slices_Clone_uint64uint64.C x3 (fun (x16 : (List Nat)) =>
 J_ (x16, t2.2.1))))) (fun t3 =>
 0 ≤ t2.1 ∧ t2.1 < ((r2.length : Nat) : Int) ∧ LoopQ (τ := Int × TWorld × List (List (List Nat))) (0, t3.2, t2.2.2.2) fun t4 nextQ3 =>
 cond (decide (t4.1 < w.Setup.N)) (0 ≤ t4.1 ∧ t4.1 < ((r.length : Nat) : Int) ∧ 0 ≤ t2.1 ∧ ∃ x19 : (List (List Nat)), private_[Int.toNat t2.1]? = some x19 ∧ ∃ x20 : (List (List Nat)), t4.2.2[Int.toNat t4.1]? = some x20 ∧ 0 ≤ t4.1 ∧ ∃ x21 : (List Nat), x19[Int.toNat t4.1]? = some x21 ∧ JoinQ (fun (J_ : List Nat × TWorld → Prop) =>
 ∃ x22 : TAct, x22 = mgetD t.2 (IntKind.i64.wrap (t2.1 + 1), IntKind.i64.wrap (t4.1 + 1)) (⟨0, 0, 0, false, []⟩ : TAct) ∧ cond (mhas t.2 (IntKind.i64.wrap (t2.1 + 1), IntKind.i64.wrap (t4.1 + 1))) (cond x22.Silent (cond ((IntKind.i64.wrap (t2.1 + 1)) != (IntKind.i64.wrap (t4.1 + 1))) (cond (decide ((0 : Int) > 0)) (slices_Clone_uint64uint64.C ([]) (fun (x23 : (List Nat)) =>
 AppOk 48 (t4.2.1.Sent ++ ([(⟨t4.2.1.Round, IntKind.i64.wrap (t2.1 + 1), IntKind.i64.wrap (t4.1 + 1), x23⟩ : TSent)] : List TSent)).length ∧ slices_Clone_uint64uint64.C ([]) (fun (x24 : (List Nat)) =>
 J_ (x24, (⟨t4.2.1.Setup, t4.2.1.Corrupted, t4.2.1.Acts, t4.2.1.Tapes, t4.2.1.Round, (t4.2.1.Sent ++ ([(⟨t4.2.1.Round, IntKind.i64.wrap (t2.1 + 1), IntKind.i64.wrap (t4.1 + 1), x23⟩ : TSent)] : List TSent))⟩ : TWorld)))))
  (slices_Clone_uint64uint64.C ([]) (fun (x25 : (List Nat)) =>
 J_ (x25, t4.2.1))))
  (slices_Clone_uint64uint64.C ([]) (fun (x26 : (List Nat)) =>
 J_ (x26, t4.2.1))))
  (cond ((IntKind.i64.wrap (t2.1 + 1)) != (IntKind.i64.wrap (t4.1 + 1))) (cond (decide (((x22.Data.length : Nat) : Int) > 0)) (slices_Clone_uint64uint64.C x22.Data (fun (x27 : (List Nat)) =>
 AppOk 48 (t4.2.1.Sent ++ ([(⟨t4.2.1.Round, IntKind.i64.wrap (t2.1 + 1), IntKind.i64.wrap (t4.1 + 1), x27⟩ : TSent)] : List TSent)).length ∧ slices_Clone_uint64uint64.C x22.Data (fun (x28 : (List Nat)) =>
 J_ (x28, (⟨t4.2.1.Setup, t4.2.1.Corrupted, t4.2.1.Acts, t4.2.1.Tapes, t4.2.1.Round, (t4.2.1.Sent ++ ([(⟨t4.2.1.Round, IntKind.i64.wrap (t2.1 + 1), IntKind.i64.wrap (t4.1 + 1), x27⟩ : TSent)] : List TSent))⟩ : TWorld)))))
  (slices_Clone_uint64uint64.C x22.Data (fun (x29 : (List Nat)) =>
 J_ (x29, t4.2.1))))
  (slices_Clone_uint64uint64.C x22.Data (fun (x30 : (List Nat)) =>
 J_ (x30, t4.2.1)))))
  (cond ((IntKind.i64.wrap (t2.1 + 1)) != (IntKind.i64.wrap (t4.1 + 1))) (cond (decide (((x21.length : Nat) : Int) > 0)) (slices_Clone_uint64uint64.C x21 (fun (x31 : (List Nat)) =>
 AppOk 48 (t4.2.1.Sent ++ ([(⟨t4.2.1.Round, IntKind.i64.wrap (t2.1 + 1), IntKind.i64.wrap (t4.1 + 1), x31⟩ : TSent)] : List TSent)).length ∧ slices_Clone_uint64uint64.C x21 (fun (x32 : (List Nat)) =>
 J_ (x32, (⟨t4.2.1.Setup, t4.2.1.Corrupted, t4.2.1.Acts, t4.2.1.Tapes, t4.2.1.Round, (t4.2.1.Sent ++ ([(⟨t4.2.1.Round, IntKind.i64.wrap (t2.1 + 1), IntKind.i64.wrap (t4.1 + 1), x31⟩ : TSent)] : List TSent))⟩ : TWorld)))))
  (slices_Clone_uint64uint64.C x21 (fun (x33 : (List Nat)) =>
 J_ (x33, t4.2.1))))
  (slices_Clone_uint64uint64.C x21 (fun (x34 : (List Nat)) =>
 J_ (x34, t4.2.1))))) (fun t5 =>
 0 ≤ t2.1 ∧ t2.1 < ((x20.length : Nat) : Int) ∧ nextQ3 (IntKind.i64.wrap (t4.1 + 1), t5.2, (List.set t4.2.2 (Int.toNat t4.1) (List.set x20 (Int.toNat t2.1) t5.1)))))
  (nextQ2 (IntKind.i64.wrap (t2.1 + 1), t4.2.1, (List.set t2.2.2.1 (Int.toNat t2.1) t3.1), t4.2.2))))
  (K t2.2.2.2 t2.2.2.1 t2.2.1)))
theorem net_swap.q {w : TWorld} {private_ : (List (List (List Nat)))} {said : (List (List Nat))} {K : (List (List (List Nat))) → (List (List Nat)) → TWorld → Prop} (q : net_swap.Q w private_ said K) : net_swap.C w private_ said K := by
 intro Z τ H hτ wP v he A n c hn f A2 n2 c2 hn2 f2 A3 n3 c3 hn3 f3 A4 n4 c4 hn4 f4 b privateA privaten privatec hn5 f5 saidA saidn saidc hn6 f6 KK hk; cases he; cases hn; cases hn2; cases hn3; cases hn4; cases hn5; cases hn6; apply net_swap.ok; unfold net_swap.W; unfold net_swap.Q at q; obtain ⟨σ, hz, hy, hσ⟩ := tags2 Z τ 3 hτ; have hs : Stp ([1, 3, 4, 5, 6, 7, 8, 9, 10, 11, 12, 13, 14, 15, 16, 17, 18, 19, 20, 21, 22, 23, 24, 25, 26, 27, 28, 29, 30, 31, 32, 33, 34, 35, 36, 37, 38, 39, 40, 41] : List Nat) σ H σ H := Stp.refl _ _ _; replace f := f.wide hz; replace f2 := f2.wide hz; replace f3 := SlO.keep f3 (Fr.wide hz _) (Fr.wide (hy 2 (by decide) (by decide)) _); replace f4 := SlO.keep f4 (Fr.wide hz _) (Fr.wide (hy 3 (by decide) (by decide)) _); replace b := BoxF.mk b.blk (hy 1 (by decide) (by decide) _ b.tag); replace f5 := f5.wide hz; replace f6 := f6.wide hz; clear hz; clear hy; refine NewH.mk fun H_ e => ?_; obtain ⟨xσ, st, b2⟩ := BoxF.new σ 4 e; refine ⟨_, b2.cell0, ?_⟩; replace b := b.step st; refine ⟨_, b.cell 1 rfl, ?_⟩; refine ⟨_, b2.cell0, ?_⟩; refine ⟨_, b.cell 6 rfl, ?_⟩; refine ⟨b.may 6 (show (6 : Nat) < 8 by decide), NewH.mk fun H_2 e2 => ?_⟩; obtain ⟨st2, b⟩ := b.wrote 6 (show (6 : Nat) < 8 by decide) e2; simp only [List.set_cons_zero, List.set_cons_succ] at b; refine NewH.mk fun H_3 e3 => ?_; obtain ⟨xσ2, st3, f7⟩ := KvO.new xσ Key96.e TAct.L true 5 e3; refine NewH.mk fun H_4 e4 => ?_; obtain ⟨xσ3, st4, b3⟩ := BoxF.new xσ2 6 e4; refine ⟨b3.may 0 (show (0 : Nat) < 1 by decide), NewH.mk fun H_5 e5 => ?_⟩; obtain ⟨st5, b3⟩ := b3.wrote 0 (show (0 : Nat) < 1 by decide) e5; simp only [List.set_cons_zero, List.set_cons_succ] at b3; replace b2 := b2.step (st2.then (st3.then (st4.then st5))); refine ⟨_, b2.cell0, ?_⟩; replace b := b.step (st3.then (st4.then st5)); refine ⟨_, _, _, b.cell 4 rfl, ?_⟩; replace f7 := f7.step (st4.then st5); refine LoopI.ofQ q (fun t_ s_ hp_ => ∃ σ_, Stp [5, 7] xσ3 H_5 σ_ hp_ ∧ t_.1 = s_ ∧ KvO Key96.e TAct.L true 5 σ_ hp_ H_2.size t_.2) (fun h k => h _ _ k) ⟨_, Stp.refl _ _ _, rfl, f7⟩ ?_; rintro t _ _ H_6 next nextQ ⟨xσ4, st6, rfl, f7⟩ q hnext; (try dsimp only at q ⊢); have sl19 := st6; refine condI (fun q => ?_) (fun q => ?_) q
 · obtain ⟨h0, x, hx, q⟩ := q; replace f2 := f2.step (st.then (st2.then (st3.then (st4.then (st5.then st6))))); obtain ⟨a, ha, hi⟩ := f2.addr h0 hx rfl; refine ⟨a, ha, hi.1, hi.2, ?_⟩; obtain ⟨cs, hr, hc⟩ := f2.ldN (k := 5) rfl ha h0 hx; obtain ⟨A5, c5, rfl, f8⟩ := hr; have hc2 := hc 0 _ rfl; have hc3 := hc 1 _ rfl; have hc4 := hc 2 _ rfl; have hc5 := hc 3 _ rfl; have hc6 := hc 4 _ rfl; refine ⟨_, _, _, _, _, _, _, hc2.val, hc3.val, hc4.val, hc5.val, hc6.val, ?_⟩; refine NewH.mk fun H_7 e6 => ?_; obtain ⟨xσ5, st7, b4⟩ := BoxF.new xσ4 7 e6; refine ⟨b4.mayF rfl, NewH.mk fun H_8 e7 => ?_⟩; obtain ⟨st8, b4⟩ := b4.wf5 rfl e7; refine ⟨_, b4.cell0, ?_⟩; replace b2 := b2.step (st6.then (st7.then st8)); refine ⟨_, b2.cell0, ?_⟩; replace b := b.step (st6.then (st7.then st8)); refine ⟨_, b.cell 6 rfl, ?_⟩; refine condJ (fun q => ?_) (fun q => ?_) q
   · have c_0 := st7.then st8; replace sl19 := sl19.trans c_0; replace f7 := f7.step c_0; exact hnext (IntKind.i64.wrap (t.1 + 1), t.2) _ _ ⟨_, sl19, rfl, f7⟩ q
   replace b3 := b3.step (st6.then (st7.then st8)); refine ⟨_, b3.cell0, ?_⟩; refine ⟨_, b4.cell 1 rfl, ?_⟩; refine ⟨_, b4.cell 2 rfl, ?_⟩; refine ⟨_, _, _, _, _, _, _, b4.cell0, b4.cell 1 rfl, b4.cell 2 rfl, b4.cell 3 rfl, b4.cell 4 rfl, ?_⟩; have c_1 := st7.then st8; replace f7 := f7.step c_1; replace f8 := f8.step c_1; refine KvO.put f7 Try.underlying95 Key96.ops (x.From, x.To) (x := x) (show (TAct.L).rep _ _ x _ from ⟨_, _, rfl, f8⟩) rfl (kk := fun H_9 st9 f7_ => ?_); replace f7 := f7_; replace sl19 := sl19.trans (st7.then (st8.then st9)); exact hnext (IntKind.i64.wrap (t.1 + 1), (mset t.2 (x.From, x.To) x)) _ _ ⟨_, sl19, rfl, f7⟩ q
 refine q (Zt xσ4) H_6  _ (fun Z2 H_10 hE hO r Y hY A6 n5 c6 hn7 f9 r2 Y2 hY2 A7 n6 c7 hn8 f10 hY3 q => ?_); obtain ⟨xσ6, st10, fz, fy, fy2⟩ := call2 hE hO xσ4 8 9 (fun _ h => h) hY hY2 hY3; replace f9 := f9.keep fz fy; replace f10 := f10.keep fz fy2; cases hn7; cases hn8; refine ⟨_, _, _, _, _, _, rfl, ?_⟩; have c_2 := st.then (st2.then (st3.then (st4.then (st5.then (st6.then st10))))); replace f := f.step c_2; replace f2 := f2.step c_2; replace f3 := f3.step c_2; replace f4 := f4.step c_2; replace b := b.step (st6.then st10); refine LoopI.ofQ q (fun t_ s_ hp_ => ∃ σ_ x1_0 A1_3 n1_3 c1_3 A1_4 n1_4 c1_4 A1_5 n1_5 c1_5 A1_7 n1_7 c1_7, Stp [1, 3, 8, 9, 10, 11, 12, 13, 14, 15, 16, 17, 18, 19, 20, 21, 22, 23, 24, 25, 26, 27, 28, 29, 30, 31, 32, 33, 34, 35, 36, 37, 38, 39, 40, 41] xσ6 H_10 σ_ hp_ ∧ t_.1 = s_ ∧ x1_0 = ((t_.2.1.Setup.P : Nat) : Int) ∧ n1_3 = t_.2.1.Corrupted.length ∧ SlF i64L (Zt σ_) hp_ A1_3 c1_3 t_.2.1.Corrupted ∧ n1_4 = t_.2.1.Acts.length ∧ SlF TAct.L (Zt σ_) hp_ A1_4 c1_4 t_.2.1.Acts ∧ n1_5 = t_.2.1.Tapes.length ∧ SlO (rdM (slL u64L)) 47 (Zt σ_) (Yt σ_ 2) hp_ A1_5 c1_5 t_.2.1.Tapes ∧ n1_7 = t_.2.1.Sent.length ∧ SlO (rdM TSent.L) 57 (Zt σ_) (Yt σ_ 3) hp_ A1_7 c1_7 t_.2.1.Sent ∧ BoxF 1 σ_ hp_ wP [.int .u64 x1_0, .int .i64 t_.2.1.Setup.N, .int .i64 t_.2.1.Setup.T_, .slice A1_3 n1_3 c1_3, .slice A1_4 n1_4 c1_4, .slice A1_5 n1_5 c1_5, .int .i64 t_.2.1.Round, .slice A1_7 n1_7 c1_7] 30 ∧ t_.2.2.1.length = r2.length ∧ SlO (rdM (slL u64L)) 47 (Zt σ_) (Yt σ_ 9) hp_ A7 c7 t_.2.2.1 ∧ t_.2.2.2.length = r.length ∧ SlO (slM (rdM (slL u64L)) 47) 27 (Zt σ_) (Yt σ_ 8) hp_ A6 c6 t_.2.2.2) (fun h k => h _ _ k) ⟨_, _, _, _, _, _, _, _, _, _, _, _, _, _, Stp.refl _ _ _, rfl, rfl, rfl, f, rfl, f2, rfl, f3, rfl, f4, b, rfl, f10, rfl, f9⟩ ?_; rintro t2 _ _ H_11 next2 nextQ2 ⟨xσ7, x2, A8, n7, c8, A9, n8, c9, A10, n9, c10, A11, n10, c11, st11, rfl, rfl, rfl, f11, rfl, f12, rfl, f13, rfl, f14, b, hl, f10, hl2, f9⟩ q hnext2; (try dsimp only at q ⊢); have sl29 := st11; refine condJ (fun q => ?_) (fun q => ?_) q
 · obtain ⟨xσ79, st93, f9⟩ := SlO.freeze f9; replace f10 := f10.step st93; obtain ⟨xσ80, st94, f10⟩ := SlO.freeze f10; replace hs := hs.trans (st.then (st2.then (st3.then (st4.then (st5.then (st6.then (st10.then (st11.then (st93.then st94))))))))); replace f9 := f9.step st94; have c_3 := st93.then st94; replace f11 := f11.step c_3; replace f12 := f12.step c_3; replace f13 := f13.step c_3; replace f14 := f14.step c_3; replace b := b.step c_3; exact hk (Zt xσ80) (ren [1, 2, 3] xσ80) _ (hs.turn hσ) (hs.oldT hσ) (ren_z _ _) t2.2.2.2 _ _ _ ((rfl : _ = _).trans hl2.symm) f9 t2.2.2.1 _ _ _ ((rfl : _ = _).trans hl.symm) f10 t2.2.1 _ rfl _ _ _ rfl f11 _ _ _ rfl f12 _ _ _ rfl (SlO.keep f13 (Fr.refl _ _) (Fr.wide (ren_y (js := [1, 2, 3]) (j := 2) (m := 2) (by decide) (by decide)) _)) _ _ _ rfl (SlO.keep f14 (Fr.refl _ _) (Fr.wide (ren_y (js := [1, 2, 3]) (j := 3) (m := 3) (by decide) (by decide)) _)) ⟨b.blk, ren_y (js := [1, 2, 3]) (j := 1) (m := 1) (by decide) (by decide) _ b.tag⟩ q
 obtain ⟨h02, x3, hx2, q⟩ := q; replace f6 := f6.step (st.then (st2.then (st3.then (st4.then (st5.then (st6.then (st10.then st11))))))); obtain ⟨a2, ha2, hi2⟩ := f6.addr h02 hx2 rfl; refine ⟨a2, ha2, hi2.1, hi2.2, ?_⟩; obtain ⟨A12, c12, hc7, f15⟩ := f6.lds ha2 h02 hx2; refine ⟨_, _, _, hc7.val, ?_⟩; refine callJoin q (fun (t_ : List Nat × TWorld) v_ hp_ => ∃ (σ_ : Nat → Nat) (A0_ : Option Addr) (n0_ c0_ : Nat) (x1_0 : Int) (A1_3 : Option Addr) (n1_3 c1_3 : Nat) (A1_4 : Option Addr) (n1_4 c1_4 : Nat) (A1_5 : Option Addr) (n1_5 c1_5 : Nat) (A1_7 : Option Addr) (n1_7 c1_7 : Nat), Stp [1, 3, 10, 11, 12, 13, 14, 15, 16, 17, 18, 19, 20, 21, 22, 23, 24, 25] xσ7 H_11 σ_ hp_ ∧ v_ = .slice A0_ n0_ c0_ ∧ n0_ = t_.1.length ∧ SlO (rdM u64L) 22 (Zt σ_) (Yt σ_ 13) hp_ A0_ c0_ t_.1 ∧ x1_0 = ((t_.2.Setup.P : Nat) : Int) ∧ n1_3 = t_.2.Corrupted.length ∧ SlF i64L (Zt σ_) hp_ A1_3 c1_3 t_.2.Corrupted ∧ n1_4 = t_.2.Acts.length ∧ SlF TAct.L (Zt σ_) hp_ A1_4 c1_4 t_.2.Acts ∧ n1_5 = t_.2.Tapes.length ∧ SlO (rdM (slL u64L)) 47 (Zt σ_) (Yt σ_ 2) hp_ A1_5 c1_5 t_.2.Tapes ∧ n1_7 = t_.2.Sent.length ∧ SlO (rdM TSent.L) 57 (Zt σ_) (Yt σ_ 3) hp_ A1_7 c1_7 t_.2.Sent ∧ BoxF 1 σ_ hp_ wP [.int .u64 x1_0, .int .i64 t_.2.Setup.N, .int .i64 t_.2.Setup.T_, .slice A1_3 n1_3 c1_3, .slice A1_4 n1_4 c1_4, .slice A1_5 n1_5 c1_5, .int .i64 t_.2.Round, .slice A1_7 n1_7 c1_7] 30) (fun q => ?_) ?_
 · (try dsimp only at q ⊢); have sl31 : Stp [1, 3, 10, 11, 12, 13, 14, 15, 16, 17, 18, 19, 20, 21, 22, 23, 24, 25] xσ7 H_11 xσ7 H_11 := Stp.refl _ _ _; apply net_swap_1.ok; unfold net_swap_1.W; replace b3 := b3.step (st6.then (st10.then st11)); refine ⟨_, b3.cell0, ?_⟩; obtain ⟨x4, hx3, q⟩ := q; replace f7 := f7.step (st10.then st11); refine KvF.lookD f7.kv Try.underlying95 Key96.ops (x0 := (⟨0, 0, 0, false, []⟩ : TAct)) (zcs := [.int .i64 0, .int .i64 0, .int .i64 0, .bool false, .slice none 0 0]) Zero60.run (fun Z H => TAct.zero Z (fun _ => False) H) true (IntKind.i64.wrap (t2.1 + 1), 0) (fun cs2 hr2 => ?_); rw [← hx3] at hr2; obtain ⟨A13, c13, rfl, f16⟩ := hr2; refine ⟨_, _, _, _, _, _, _, _, rfl, ?_⟩; refine NewH.mk fun H_12 e8 => ?_; obtain ⟨xσ8, st12, b5⟩ := BoxF.new xσ7 10 e8; refine ⟨b5.mayF rfl, NewH.mk fun H_13 e9 => ?_⟩; obtain ⟨st13, b5⟩ := b5.wf5 rfl e9; refine condJ (fun q => ?_) (fun q => ?_) q
   · refine condJ (fun q => ?_) (fun q => ?_) q
     · replace f15 := f15.step (st12.then st13); refine q (Zt xσ8) H_13 _ _ _ rfl f15 _ (fun Z14 H_34 hE13 hO13 x16 Y14 hY15 A28 n22 c28 hn20 f34 q => ?_); obtain ⟨xσ39, st47, fz13, fy14⟩ := call1 hE13 hO13 xσ8 25 (fun _ h => h) hY15; replace f34 := f34.keep fz13 fy14; cases hn20; refine ⟨_, _, _, rfl, ?_⟩; obtain ⟨xσ40, st48, f34⟩ := SlO.retag f34 13; have c_4 := st12.then (st13.then (st47.then st48)); replace sl31 := sl31.trans c_4; replace f11 := f11.step c_4; replace f12 := f12.step c_4; replace f13 := f13.step c_4; replace f14 := f14.step c_4; replace b := b.step c_4; exact ⟨(x16, t2.2.1), ⟨_, _, _, _, _, _, _, _, _, _, _, _, _, _, _, _, _, sl31, rfl, rfl, f34, rfl, rfl, f11, rfl, f12, rfl, f13, rfl, f14, b⟩, q⟩
     refine condJ (fun q => ?_) (fun q => ?_) q
     · replace f15 := f15.step (st12.then st13); refine q (Zt xσ8) H_13 _ _ _ rfl f15 _ (fun Z13 H_33 hE12 hO12 x15 Y13 hY14 A27 n21 c27 hn19 f33 q => ?_); obtain ⟨xσ37, st45, fz12, fy13⟩ := call1 hE12 hO12 xσ8 24 (fun _ h => h) hY14; replace f33 := f33.keep fz12 fy13; cases hn19; refine ⟨_, _, _, rfl, ?_⟩; obtain ⟨xσ38, st46, f33⟩ := SlO.retag f33 13; have c_5 := st12.then (st13.then (st45.then st46)); replace sl31 := sl31.trans c_5; replace f11 := f11.step c_5; replace f12 := f12.step c_5; replace f13 := f13.step c_5; replace f14 := f14.step c_5; replace b := b.step c_5; exact ⟨(x15, t2.2.1), ⟨_, _, _, _, _, _, _, _, _, _, _, _, _, _, _, _, _, sl31, rfl, rfl, f33, rfl, rfl, f11, rfl, f12, rfl, f13, rfl, f14, b⟩, q⟩
     replace b2 := b2.step (st6.then (st10.then (st11.then (st12.then st13)))); refine ⟨_, b2.cell0, ?_⟩; refine ⟨_, b2.cell0, ?_⟩; replace b := b.step (st12.then st13); refine ⟨_, _, _, b.cell 7 rfl, ?_⟩; refine ⟨_, b2.cell0, ?_⟩; refine ⟨_, b.cell 6 rfl, ?_⟩; replace f15 := f15.step (st12.then st13); refine q (Zt xσ8) H_13 _ _ _ rfl f15 _ (fun Z11 H_28 hE10 hO10 x13 Y11 hY12 A24 n19 c24 hn17 f29 q => ?_); obtain ⟨xσ30, st37, fz10, fy11⟩ := call1 hE10 hO10 xσ8 21 (fun _ h => h) hY12; replace f29 := f29.keep fz10 fy11; cases hn17; refine ⟨_, _, _, rfl, ?_⟩; replace b := b.step st37; replace b2 := b2.step st37; refine ⟨(b.cell 6 rfl), b2.cell0, (b.cell 7 rfl), b2.cell0, b2.cell0, ?_⟩; obtain ⟨xσ31, st38, f29⟩ := SlO.freeze f29; refine NewH.mk fun H_29 e14 => ?_; obtain ⟨xσ32, st39, f30⟩ := SlO.lit (E := TSent.L) xσ31 22 (xs := [(⟨t2.2.1.Round, IntKind.i64.wrap (t2.1 + 1), 0, x13⟩ : TSent)]) (l := [[_, _, _, _]]) e14 rfl (.cons (show (TSent.L).rep _ _ (⟨t2.2.1.Round, IntKind.i64.wrap (t2.1 + 1), 0, x13⟩ : TSent) _ from ⟨_, _, rfl, f29⟩) .nil) (show (1 : Nat) ≤ 17592186044416 by decide); have c_6 := st38.then st39; replace b := b.step c_6; replace b2 := b2.step c_6; refine ⟨(b.cell 7 rfl), b2.cell0, b2.cell0, ?_⟩; obtain ⟨xσ34, st41, f30⟩ := SlO.freeze f30; obtain ⟨q4, q⟩ := q; replace f14 := f14.step (st12.then (st13.then (st37.then (st38.then (st39.then st41))))); refine SlO.appF f14 f30 rfl rfl q4.l q4.r rfl rfl (fun A25 c25 H_30 xσ33 st40 f14_ => ?_); replace f14 := f14_; have f31 := f14; clear f14; replace b2 := b2.step (st41.then st40); refine ⟨b2.cell0, ?_⟩; replace b := b.step (st41.then st40); refine ⟨b.may 7 (show (7 : Nat) < 8 by decide), NewH.mk fun H_31 e15 => ?_⟩; obtain ⟨st42, b⟩ := b.wrote 7 (show (7 : Nat) < 8 by decide) e15; simp only [List.set_cons_zero, List.set_cons_succ] at b; replace f15 := f15.step (st37.then (st38.then (st39.then (st41.then (st40.then st42))))); refine q (Zt xσ33) H_31 _ _ _ rfl f15 _ (fun Z12 H_32 hE11 hO11 x14 Y12 hY13 A26 n20 c26 hn18 f32 q => ?_); obtain ⟨xσ35, st43, fz11, fy12⟩ := call1 hE11 hO11 xσ33 23 (fun _ h => h) hY13; replace f32 := f32.keep fz11 fy12; cases hn18; refine ⟨_, _, _, rfl, ?_⟩; obtain ⟨xσ36, st44, f32⟩ := SlO.retag f32 13; have c_7 := st12.then (st13.then (st37.then (st38.then (st39.then (st41.then (st40.then (st42.then (st43.then st44)))))))); replace sl31 := sl31.trans c_7; replace f11 := f11.step c_7; replace f12 := f12.step c_7; replace f13 := f13.step c_7; replace f31 := f31.step (st42.then (st43.then st44)); replace b := b.step (st43.then st44); exact ⟨(x14, (⟨t2.2.1.Setup, t2.2.1.Corrupted, t2.2.1.Acts, t2.2.1.Tapes, t2.2.1.Round, (t2.2.1.Sent ++ ([(⟨t2.2.1.Round, IntKind.i64.wrap (t2.1 + 1), 0, x13⟩ : TSent)] : List TSent))⟩ : TWorld)), ⟨_, _, _, _, _, _, _, _, _, _, _, _, _, _, _, _, _, sl31, rfl, rfl, f32, rfl, rfl, f11, rfl, f12, rfl, f13, rfl, f31, b⟩, q⟩
   refine ⟨_, _, _, b5.cell 4 rfl, ?_⟩; refine ⟨_, b5.cell 3 rfl, ?_⟩; refine condI (fun q => ?_) (fun q => ?_) q
   · refine condJ (fun q => ?_) (fun q => ?_) q
     · refine q (Zt xσ8) H_13 _ _ _ rfl (SlF.nil _ _ _ _ _) _ (fun Z6 H_20 hE5 hO5 x8 Y6 hY7 A18 n14 c18 hn12 f22 q => ?_); obtain ⟨xσ17, st23, fz5, fy6⟩ := call1 hE5 hO5 xσ8 15 (fun _ h => h) hY7; replace f22 := f22.keep fz5 fy6; cases hn12; refine ⟨_, _, _, rfl, ?_⟩; obtain ⟨xσ18, st24, f22⟩ := SlO.retag f22 13; have c_8 := st12.then (st13.then (st23.then st24)); replace sl31 := sl31.trans c_8; replace f11 := f11.step c_8; replace f12 := f12.step c_8; replace f13 := f13.step c_8; replace f14 := f14.step c_8; replace b := b.step c_8; exact ⟨(x8, t2.2.1), ⟨_, _, _, _, _, _, _, _, _, _, _, _, _, _, _, _, _, sl31, rfl, rfl, f22, rfl, rfl, f11, rfl, f12, rfl, f13, rfl, f14, b⟩, q⟩
     refine condJ (fun q => ?_) (fun q => ?_) q
     · refine q (Zt xσ8) H_13 _ _ _ rfl (SlF.nil _ _ _ _ _) _ (fun Z5 H_19 hE4 hO4 x7 Y5 hY6 A17 n13 c17 hn11 f21 q => ?_); obtain ⟨xσ15, st21, fz4, fy5⟩ := call1 hE4 hO4 xσ8 14 (fun _ h => h) hY6; replace f21 := f21.keep fz4 fy5; cases hn11; refine ⟨_, _, _, rfl, ?_⟩; obtain ⟨xσ16, st22, f21⟩ := SlO.retag f21 13; have c_9 := st12.then (st13.then (st21.then st22)); replace sl31 := sl31.trans c_9; replace f11 := f11.step c_9; replace f12 := f12.step c_9; replace f13 := f13.step c_9; replace f14 := f14.step c_9; replace b := b.step c_9; exact ⟨(x7, t2.2.1), ⟨_, _, _, _, _, _, _, _, _, _, _, _, _, _, _, _, _, sl31, rfl, rfl, f21, rfl, rfl, f11, rfl, f12, rfl, f13, rfl, f14, b⟩, q⟩
     replace b2 := b2.step (st6.then (st10.then (st11.then (st12.then st13)))); refine ⟨_, b2.cell0, ?_⟩; refine ⟨_, b2.cell0, ?_⟩; replace b := b.step (st12.then st13); refine ⟨_, _, _, b.cell 7 rfl, ?_⟩; refine ⟨_, b2.cell0, ?_⟩; refine ⟨_, b.cell 6 rfl, ?_⟩; refine q (Zt xσ8) H_13 _ _ _ rfl (SlF.nil _ _ _ _ _) _ (fun Z3 H_14 hE2 hO2 x5 Y3 hY4 A14 n11 c14 hn9 f17 q => ?_); obtain ⟨xσ9, st14, fz2, fy3⟩ := call1 hE2 hO2 xσ8 11 (fun _ h => h) hY4; replace f17 := f17.keep fz2 fy3; cases hn9; refine ⟨_, _, _, rfl, ?_⟩; replace b := b.step st14; replace b2 := b2.step st14; refine ⟨(b.cell 6 rfl), b2.cell0, (b.cell 7 rfl), b2.cell0, b2.cell0, ?_⟩; obtain ⟨xσ10, st15, f17⟩ := SlO.freeze f17; refine NewH.mk fun H_15 e10 => ?_; obtain ⟨xσ11, st16, f18⟩ := SlO.lit (E := TSent.L) xσ10 12 (xs := [(⟨t2.2.1.Round, IntKind.i64.wrap (t2.1 + 1), 0, x5⟩ : TSent)]) (l := [[_, _, _, _]]) e10 rfl (.cons (show (TSent.L).rep _ _ (⟨t2.2.1.Round, IntKind.i64.wrap (t2.1 + 1), 0, x5⟩ : TSent) _ from ⟨_, _, rfl, f17⟩) .nil) (show (1 : Nat) ≤ 17592186044416 by decide); have c_10 := st15.then st16; replace b := b.step c_10; replace b2 := b2.step c_10; refine ⟨(b.cell 7 rfl), b2.cell0, b2.cell0, ?_⟩; obtain ⟨xσ13, st18, f18⟩ := SlO.freeze f18; obtain ⟨q2, q⟩ := q; replace f14 := f14.step (st12.then (st13.then (st14.then (st15.then (st16.then st18))))); refine SlO.appF f14 f18 rfl rfl q2.l q2.r rfl rfl (fun A15 c15 H_16 xσ12 st17 f14_ => ?_); replace f14 := f14_; have f19 := f14; clear f14; replace b2 := b2.step (st18.then st17); refine ⟨b2.cell0, ?_⟩; replace b := b.step (st18.then st17); refine ⟨b.may 7 (show (7 : Nat) < 8 by decide), NewH.mk fun H_17 e11 => ?_⟩; obtain ⟨st19, b⟩ := b.wrote 7 (show (7 : Nat) < 8 by decide) e11; simp only [List.set_cons_zero, List.set_cons_succ] at b; refine q (Zt xσ12) H_17 _ _ _ rfl (SlF.nil _ _ _ _ _) _ (fun Z4 H_18 hE3 hO3 x6 Y4 hY5 A16 n12 c16 hn10 f20 q => ?_); obtain ⟨xσ14, st20, fz3, fy4⟩ := call1 hE3 hO3 xσ12 13 (fun _ h => h) hY5; replace f20 := f20.keep fz3 fy4; cases hn10; refine ⟨_, _, _, rfl, ?_⟩; have c_11 := st12.then (st13.then (st14.then (st15.then (st16.then (st18.then (st17.then (st19.then st20))))))); replace sl31 := sl31.trans c_11; replace f11 := f11.step c_11; replace f12 := f12.step c_11; replace f13 := f13.step c_11; replace f19 := f19.step (st19.then st20); replace b := b.step st20; exact ⟨(x6, (⟨t2.2.1.Setup, t2.2.1.Corrupted, t2.2.1.Acts, t2.2.1.Tapes, t2.2.1.Round, (t2.2.1.Sent ++ ([(⟨t2.2.1.Round, IntKind.i64.wrap (t2.1 + 1), 0, x5⟩ : TSent)] : List TSent))⟩ : TWorld)), ⟨_, _, _, _, _, _, _, _, _, _, _, _, _, _, _, _, _, sl31, rfl, rfl, f20, rfl, rfl, f11, rfl, f12, rfl, f13, rfl, f19, b⟩, q⟩
   refine condJ (fun q => ?_) (fun q => ?_) q
   · replace f16 := f16.step (st12.then st13); refine q (Zt xσ8) H_13 _ _ _ rfl f16 _ (fun Z10 H_27 hE9 hO9 x12 Y10 hY11 A23 n18 c23 hn16 f28 q => ?_); obtain ⟨xσ28, st35, fz9, fy10⟩ := call1 hE9 hO9 xσ8 20 (fun _ h => h) hY11; replace f28 := f28.keep fz9 fy10; cases hn16; refine ⟨_, _, _, rfl, ?_⟩; obtain ⟨xσ29, st36, f28⟩ := SlO.retag f28 13; have c_12 := st12.then (st13.then (st35.then st36)); replace sl31 := sl31.trans c_12; replace f11 := f11.step c_12; replace f12 := f12.step c_12; replace f13 := f13.step c_12; replace f14 := f14.step c_12; replace b := b.step c_12; exact ⟨(x12, t2.2.1), ⟨_, _, _, _, _, _, _, _, _, _, _, _, _, _, _, _, _, sl31, rfl, rfl, f28, rfl, rfl, f11, rfl, f12, rfl, f13, rfl, f14, b⟩, q⟩
   refine condJ (fun q => ?_) (fun q => ?_) q
   · replace f16 := f16.step (st12.then st13); refine q (Zt xσ8) H_13 _ _ _ rfl f16 _ (fun Z9 H_26 hE8 hO8 x11 Y9 hY10 A22 n17 c22 hn15 f27 q => ?_); obtain ⟨xσ26, st33, fz8, fy9⟩ := call1 hE8 hO8 xσ8 19 (fun _ h => h) hY10; replace f27 := f27.keep fz8 fy9; cases hn15; refine ⟨_, _, _, rfl, ?_⟩; obtain ⟨xσ27, st34, f27⟩ := SlO.retag f27 13; have c_13 := st12.then (st13.then (st33.then st34)); replace sl31 := sl31.trans c_13; replace f11 := f11.step c_13; replace f12 := f12.step c_13; replace f13 := f13.step c_13; replace f14 := f14.step c_13; replace b := b.step c_13; exact ⟨(x11, t2.2.1), ⟨_, _, _, _, _, _, _, _, _, _, _, _, _, _, _, _, _, sl31, rfl, rfl, f27, rfl, rfl, f11, rfl, f12, rfl, f13, rfl, f14, b⟩, q⟩
   replace b2 := b2.step (st6.then (st10.then (st11.then (st12.then st13)))); refine ⟨_, b2.cell0, ?_⟩; refine ⟨_, b2.cell0, ?_⟩; replace b := b.step (st12.then st13); refine ⟨_, _, _, b.cell 7 rfl, ?_⟩; refine ⟨_, b2.cell0, ?_⟩; refine ⟨_, b.cell 6 rfl, ?_⟩; replace f16 := f16.step (st12.then st13); refine q (Zt xσ8) H_13 _ _ _ rfl f16 _ (fun Z7 H_21 hE6 hO6 x9 Y7 hY8 A19 n15 c19 hn13 f23 q => ?_); obtain ⟨xσ19, st25, fz6, fy7⟩ := call1 hE6 hO6 xσ8 16 (fun _ h => h) hY8; replace f23 := f23.keep fz6 fy7; cases hn13; refine ⟨_, _, _, rfl, ?_⟩; replace b := b.step st25; replace b2 := b2.step st25; refine ⟨(b.cell 6 rfl), b2.cell0, (b.cell 7 rfl), b2.cell0, b2.cell0, ?_⟩; obtain ⟨xσ20, st26, f23⟩ := SlO.freeze f23; refine NewH.mk fun H_22 e12 => ?_; obtain ⟨xσ21, st27, f24⟩ := SlO.lit (E := TSent.L) xσ20 17 (xs := [(⟨t2.2.1.Round, IntKind.i64.wrap (t2.1 + 1), 0, x9⟩ : TSent)]) (l := [[_, _, _, _]]) e12 rfl (.cons (show (TSent.L).rep _ _ (⟨t2.2.1.Round, IntKind.i64.wrap (t2.1 + 1), 0, x9⟩ : TSent) _ from ⟨_, _, rfl, f23⟩) .nil) (show (1 : Nat) ≤ 17592186044416 by decide); have c_14 := st26.then st27; replace b := b.step c_14; replace b2 := b2.step c_14; refine ⟨(b.cell 7 rfl), b2.cell0, b2.cell0, ?_⟩; obtain ⟨xσ23, st29, f24⟩ := SlO.freeze f24; obtain ⟨q3, q⟩ := q; replace f14 := f14.step (st12.then (st13.then (st25.then (st26.then (st27.then st29))))); refine SlO.appF f14 f24 rfl rfl q3.l q3.r rfl rfl (fun A20 c20 H_23 xσ22 st28 f14_ => ?_); replace f14 := f14_; have f25 := f14; clear f14; replace b2 := b2.step (st29.then st28); refine ⟨b2.cell0, ?_⟩; replace b := b.step (st29.then st28); refine ⟨b.may 7 (show (7 : Nat) < 8 by decide), NewH.mk fun H_24 e13 => ?_⟩; obtain ⟨st30, b⟩ := b.wrote 7 (show (7 : Nat) < 8 by decide) e13; simp only [List.set_cons_zero, List.set_cons_succ] at b; replace f16 := f16.step (st25.then (st26.then (st27.then (st29.then (st28.then st30))))); refine q (Zt xσ22) H_24 _ _ _ rfl f16 _ (fun Z8 H_25 hE7 hO7 x10 Y8 hY9 A21 n16 c21 hn14 f26 q => ?_); obtain ⟨xσ24, st31, fz7, fy8⟩ := call1 hE7 hO7 xσ22 18 (fun _ h => h) hY9; replace f26 := f26.keep fz7 fy8; cases hn14; refine ⟨_, _, _, rfl, ?_⟩; obtain ⟨xσ25, st32, f26⟩ := SlO.retag f26 13; have c_15 := st12.then (st13.then (st25.then (st26.then (st27.then (st29.then (st28.then (st30.then (st31.then st32)))))))); replace sl31 := sl31.trans c_15; replace f11 := f11.step c_15; replace f12 := f12.step c_15; replace f13 := f13.step c_15; replace f25 := f25.step (st30.then (st31.then st32)); replace b := b.step (st31.then st32); exact ⟨(x10, (⟨t2.2.1.Setup, t2.2.1.Corrupted, t2.2.1.Acts, t2.2.1.Tapes, t2.2.1.Round, (t2.2.1.Sent ++ ([(⟨t2.2.1.Round, IntKind.i64.wrap (t2.1 + 1), 0, x9⟩ : TSent)] : List TSent))⟩ : TWorld)), ⟨_, _, _, _, _, _, _, _, _, _, _, _, _, _, _, _, _, sl31, rfl, rfl, f26, rfl, rfl, f11, rfl, f12, rfl, f13, rfl, f25, b⟩, q⟩
 rintro t3 _ H_35 ⟨xσ41, A29, n23, c29, x17, A30, n24, c30, A31, n25, c31, A32, n26, c32, A33, n27, c33, st49, rfl, rfl, f35, rfl, rfl, f36, rfl, f37, rfl, f38, rfl, f39, b⟩ q; (try dsimp only at q ⊢); refine ⟨_, _, _, rfl, ?_⟩; obtain ⟨h03, hi4, q⟩ := q; replace f10 := f10.step st49; obtain ⟨a3, ha3, hi3⟩ := f10.addr h03 ((rfl : _ = _).trans hl.symm) hi4; refine ⟨a3, ha3, hi3.1, hi3.2, ?_⟩; obtain ⟨xσ42, st51, f35⟩ := SlO.freeze f35; replace f10 := f10.step st51; have w2 := fun v hr => SlO.set1 (v := v) (y := t3.1) f10 rfl ha3 h03 (lt_of_n ((rfl : _ = _).trans hl.symm) hi4) hr; refine ⟨(w2 _ (slL_rep rfl f35)).1, NewH.mk fun H_36 e16 => ?_⟩; obtain ⟨st50, f10⟩ := (w2 _ (slL_rep rfl f35)).2 H_36 e16; have c_16 := st51.then st50; replace f36 := f36.step c_16; replace f37 := f37.step c_16; replace f38 := f38.step c_16; replace f39 := f39.step c_16; replace b := b.step c_16; replace f9 := f9.step (st49.then (st51.then st50)); refine LoopI.ofQ q (fun t_ s_ hp_ => ∃ σ_ x1_0 A1_3 n1_3 c1_3 A1_4 n1_4 c1_4 A1_5 n1_5 c1_5 A1_7 n1_7 c1_7, Stp [1, 3, 8, 26, 27, 28, 29, 30, 31, 32, 33, 34, 35, 36, 37, 38, 39, 40, 41] xσ42 H_36 σ_ hp_ ∧ t_.1 = s_ ∧ x1_0 = ((t_.2.1.Setup.P : Nat) : Int) ∧ n1_3 = t_.2.1.Corrupted.length ∧ SlF i64L (Zt σ_) hp_ A1_3 c1_3 t_.2.1.Corrupted ∧ n1_4 = t_.2.1.Acts.length ∧ SlF TAct.L (Zt σ_) hp_ A1_4 c1_4 t_.2.1.Acts ∧ n1_5 = t_.2.1.Tapes.length ∧ SlO (rdM (slL u64L)) 47 (Zt σ_) (Yt σ_ 2) hp_ A1_5 c1_5 t_.2.1.Tapes ∧ n1_7 = t_.2.1.Sent.length ∧ SlO (rdM TSent.L) 57 (Zt σ_) (Yt σ_ 3) hp_ A1_7 c1_7 t_.2.1.Sent ∧ BoxF 1 σ_ hp_ wP [.int .u64 x1_0, .int .i64 t_.2.1.Setup.N, .int .i64 t_.2.1.Setup.T_, .slice A1_3 n1_3 c1_3, .slice A1_4 n1_4 c1_4, .slice A1_5 n1_5 c1_5, .int .i64 t_.2.1.Round, .slice A1_7 n1_7 c1_7] 30 ∧ t_.2.2.length = t2.2.2.2.length ∧ SlO (slM (rdM (slL u64L)) 47) 27 (Zt σ_) (Yt σ_ 8) hp_ A6 c6 t_.2.2) (fun h k => h _ _ k) ⟨_, _, _, _, _, _, _, _, _, _, _, _, _, _, Stp.refl _ _ _, rfl, rfl, rfl, f36, rfl, f37, rfl, f38, rfl, f39, b, rfl, f9⟩ ?_; rintro t4 _ _ H_37 next3 nextQ3 ⟨xσ43, x18, A34, n28, c34, A35, n29, c35, A36, n30, c36, A37, n31, c37, st52, rfl, rfl, rfl, f40, rfl, f41, rfl, f42, rfl, f43, b, hl3, f9⟩ q hnext3; (try dsimp only at q ⊢); have sl35 := st52; refine condJ (fun q => ?_) (fun q => ?_) q
 · replace sl29 := sl29.trans (st49.then (st51.then (st50.then st52))); replace f10 := f10.step st52; exact hnext2 (IntKind.i64.wrap (t2.1 + 1), t4.2.1, (List.set t2.2.2.1 (Int.toNat t2.1) t3.1), t4.2.2) _ _ ⟨_, _, _, _, _, _, _, _, _, _, _, _, _, _, sl29, rfl, rfl, rfl, f40, rfl, f41, rfl, f42, rfl, f43, b, (set_back ((rfl : _ = _).trans hl.symm) (set_len ((rfl : _ = _).trans hl.symm)) hl), f10, (set_back ((rfl : _ = _).trans hl2.symm) (((rfl : _ = _).trans hl2.symm).trans hl3.symm) hl2), f9⟩ q
 obtain ⟨h04, hi6, q⟩ := q; obtain ⟨a4, ha4, hi5⟩ := f9.addr h04 (((rfl : _ = _).trans hl2.symm).trans hl3.symm) hi6; refine ⟨a4, ha4, hi5.1, hi5.2, ?_⟩; obtain ⟨h05, x19, hx4, q⟩ := q; replace f5 := f5.step (st.then (st2.then (st3.then (st4.then (st5.then (st6.then (st10.then (st11.then (st49.then (st51.then (st50.then st52))))))))))); obtain ⟨a5, ha5, hi7⟩ := f5.addr h05 hx4 rfl; refine ⟨a5, ha5, hi7.1, hi7.2, ?_⟩; obtain ⟨x20, hx5, q⟩ := q; obtain ⟨A38, c38, Y15, hc8, hY16, f44, bk⟩ := f9.row ha4 h04 hx5; have g := SlO.rowF f44 (fun b hb => (hY16 b hb).1); refine ⟨_, _, _, hc8.val, ?_⟩; obtain ⟨A39, c39, hc9, f45⟩ := f5.lds ha5 h05 hx4; refine ⟨_, _, _, hc9.val, ?_⟩; obtain ⟨h06, x21, hx6, q⟩ := q; obtain ⟨a6, ha6, hi8⟩ := f45.addr h06 hx6 rfl; refine ⟨a6, ha6, hi8.1, hi8.2, ?_⟩; obtain ⟨A40, c40, hc10, f46⟩ := f45.lds ha6 h06 hx6; refine ⟨_, _, _, hc10.val, ?_⟩; refine callJoin q (fun (t_ : List Nat × TWorld) v_ hp_ => ∃ (σ_ : Nat → Nat) (A0_ : Option Addr) (n0_ c0_ : Nat) (x1_0 : Int) (A1_3 : Option Addr) (n1_3 c1_3 : Nat) (A1_4 : Option Addr) (n1_4 c1_4 : Nat) (A1_5 : Option Addr) (n1_5 c1_5 : Nat) (A1_7 : Option Addr) (n1_7 c1_7 : Nat), Stp [1, 3, 26, 27, 28, 29, 30, 31, 32, 33, 34, 35, 36, 37, 38, 39, 40, 41] xσ43 H_37 σ_ hp_ ∧ v_ = .slice A0_ n0_ c0_ ∧ n0_ = t_.1.length ∧ SlO (rdM u64L) 22 (Zt σ_) (Yt σ_ 29) hp_ A0_ c0_ t_.1 ∧ x1_0 = ((t_.2.Setup.P : Nat) : Int) ∧ n1_3 = t_.2.Corrupted.length ∧ SlF i64L (Zt σ_) hp_ A1_3 c1_3 t_.2.Corrupted ∧ n1_4 = t_.2.Acts.length ∧ SlF TAct.L (Zt σ_) hp_ A1_4 c1_4 t_.2.Acts ∧ n1_5 = t_.2.Tapes.length ∧ SlO (rdM (slL u64L)) 47 (Zt σ_) (Yt σ_ 2) hp_ A1_5 c1_5 t_.2.Tapes ∧ n1_7 = t_.2.Sent.length ∧ SlO (rdM TSent.L) 57 (Zt σ_) (Yt σ_ 3) hp_ A1_7 c1_7 t_.2.Sent ∧ BoxF 1 σ_ hp_ wP [.int .u64 x1_0, .int .i64 t_.2.Setup.N, .int .i64 t_.2.Setup.T_, .slice A1_3 n1_3 c1_3, .slice A1_4 n1_4 c1_4, .slice A1_5 n1_5 c1_5, .int .i64 t_.2.Round, .slice A1_7 n1_7 c1_7] 30) (fun q => ?_) ?_
 · (try dsimp only at q ⊢); have sl37 : Stp [1, 3, 26, 27, 28, 29, 30, 31, 32, 33, 34, 35, 36, 37, 38, 39, 40, 41] xσ43 H_37 xσ43 H_37 := Stp.refl _ _ _; apply net_swap_1.ok; unfold net_swap_1.W; replace b3 := b3.step (st6.then (st10.then (st11.then (st49.then (st51.then (st50.then st52)))))); refine ⟨_, b3.cell0, ?_⟩; obtain ⟨x22, hx7, q⟩ := q; replace f7 := f7.step (st10.then (st11.then (st49.then (st51.then (st50.then st52))))); refine KvF.lookD f7.kv Try.underlying95 Key96.ops (x0 := (⟨0, 0, 0, false, []⟩ : TAct)) (zcs := [.int .i64 0, .int .i64 0, .int .i64 0, .bool false, .slice none 0 0]) Zero60.run (fun Z H => TAct.zero Z (fun _ => False) H) true (IntKind.i64.wrap (t2.1 + 1), IntKind.i64.wrap (t4.1 + 1)) (fun cs3 hr3 => ?_); rw [← hx7] at hr3; obtain ⟨A41, c41, rfl, f47⟩ := hr3; refine ⟨_, _, _, _, _, _, _, _, rfl, ?_⟩; refine NewH.mk fun H_38 e17 => ?_; obtain ⟨xσ44, st53, b6⟩ := BoxF.new xσ43 26 e17; refine ⟨b6.mayF rfl, NewH.mk fun H_39 e18 => ?_⟩; obtain ⟨st54, b6⟩ := b6.wf5 rfl e18; refine condJ (fun q => ?_) (fun q => ?_) q
   · refine condJ (fun q => ?_) (fun q => ?_) q
     · replace f46 := f46.step (st53.then st54); refine q (Zt xσ44) H_39 _ _ _ rfl f46 _ (fun Z26 H_60 hE25 hO25 x34 Y27 hY28 A56 n43 c56 hn32 f65 q => ?_); obtain ⟨xσ75, st88, fz25, fy26⟩ := call1 hE25 hO25 xσ44 41 (fun _ h => h) hY28; replace f65 := f65.keep fz25 fy26; cases hn32; refine ⟨_, _, _, rfl, ?_⟩; obtain ⟨xσ76, st89, f65⟩ := SlO.retag f65 29; have c_17 := st53.then (st54.then (st88.then st89)); replace sl37 := sl37.trans c_17; replace f40 := f40.step c_17; replace f41 := f41.step c_17; replace f42 := f42.step c_17; replace f43 := f43.step c_17; replace b := b.step c_17; exact ⟨(x34, t4.2.1), ⟨_, _, _, _, _, _, _, _, _, _, _, _, _, _, _, _, _, sl37, rfl, rfl, f65, rfl, rfl, f40, rfl, f41, rfl, f42, rfl, f43, b⟩, q⟩
     refine condJ (fun q => ?_) (fun q => ?_) q
     · replace f46 := f46.step (st53.then st54); refine q (Zt xσ44) H_39 _ _ _ rfl f46 _ (fun Z25 H_59 hE24 hO24 x33 Y26 hY27 A55 n42 c55 hn31 f64 q => ?_); obtain ⟨xσ73, st86, fz24, fy25⟩ := call1 hE24 hO24 xσ44 40 (fun _ h => h) hY27; replace f64 := f64.keep fz24 fy25; cases hn31; refine ⟨_, _, _, rfl, ?_⟩; obtain ⟨xσ74, st87, f64⟩ := SlO.retag f64 29; have c_18 := st53.then (st54.then (st86.then st87)); replace sl37 := sl37.trans c_18; replace f40 := f40.step c_18; replace f41 := f41.step c_18; replace f42 := f42.step c_18; replace f43 := f43.step c_18; replace b := b.step c_18; exact ⟨(x33, t4.2.1), ⟨_, _, _, _, _, _, _, _, _, _, _, _, _, _, _, _, _, sl37, rfl, rfl, f64, rfl, rfl, f40, rfl, f41, rfl, f42, rfl, f43, b⟩, q⟩
     replace b2 := b2.step (st6.then (st10.then (st11.then (st49.then (st51.then (st50.then (st52.then (st53.then st54)))))))); refine ⟨_, b2.cell0, ?_⟩; refine ⟨_, b2.cell0, ?_⟩; replace b := b.step (st53.then st54); refine ⟨_, _, _, b.cell 7 rfl, ?_⟩; refine ⟨_, b2.cell0, ?_⟩; refine ⟨_, b.cell 6 rfl, ?_⟩; replace f46 := f46.step (st53.then st54); refine q (Zt xσ44) H_39 _ _ _ rfl f46 _ (fun Z23 H_54 hE22 hO22 x31 Y24 hY25 A52 n40 c52 hn29 f60 q => ?_); obtain ⟨xσ66, st78, fz22, fy23⟩ := call1 hE22 hO22 xσ44 37 (fun _ h => h) hY25; replace f60 := f60.keep fz22 fy23; cases hn29; refine ⟨_, _, _, rfl, ?_⟩; replace b := b.step st78; replace b2 := b2.step st78; refine ⟨(b.cell 6 rfl), b2.cell0, (b.cell 7 rfl), b2.cell0, b2.cell0, ?_⟩; obtain ⟨xσ67, st79, f60⟩ := SlO.freeze f60; refine NewH.mk fun H_55 e23 => ?_; obtain ⟨xσ68, st80, f61⟩ := SlO.lit (E := TSent.L) xσ67 38 (xs := [(⟨t4.2.1.Round, IntKind.i64.wrap (t2.1 + 1), IntKind.i64.wrap (t4.1 + 1), x31⟩ : TSent)]) (l := [[_, _, _, _]]) e23 rfl (.cons (show (TSent.L).rep _ _ (⟨t4.2.1.Round, IntKind.i64.wrap (t2.1 + 1), IntKind.i64.wrap (t4.1 + 1), x31⟩ : TSent) _ from ⟨_, _, rfl, f60⟩) .nil) (show (1 : Nat) ≤ 17592186044416 by decide); have c_19 := st79.then st80; replace b := b.step c_19; replace b2 := b2.step c_19; refine ⟨(b.cell 7 rfl), b2.cell0, b2.cell0, ?_⟩; obtain ⟨xσ70, st82, f61⟩ := SlO.freeze f61; obtain ⟨q7, q⟩ := q; replace f43 := f43.step (st53.then (st54.then (st78.then (st79.then (st80.then st82))))); refine SlO.appF f43 f61 rfl rfl q7.l q7.r rfl rfl (fun A53 c53 H_56 xσ69 st81 f43_ => ?_); replace f43 := f43_; have f62 := f43; clear f43; replace b2 := b2.step (st82.then st81); refine ⟨b2.cell0, ?_⟩; replace b := b.step (st82.then st81); refine ⟨b.may 7 (show (7 : Nat) < 8 by decide), NewH.mk fun H_57 e24 => ?_⟩; obtain ⟨st83, b⟩ := b.wrote 7 (show (7 : Nat) < 8 by decide) e24; simp only [List.set_cons_zero, List.set_cons_succ] at b; replace f46 := f46.step (st78.then (st79.then (st80.then (st82.then (st81.then st83))))); refine q (Zt xσ69) H_57 _ _ _ rfl f46 _ (fun Z24 H_58 hE23 hO23 x32 Y25 hY26 A54 n41 c54 hn30 f63 q => ?_); obtain ⟨xσ71, st84, fz23, fy24⟩ := call1 hE23 hO23 xσ69 39 (fun _ h => h) hY26; replace f63 := f63.keep fz23 fy24; cases hn30; refine ⟨_, _, _, rfl, ?_⟩; obtain ⟨xσ72, st85, f63⟩ := SlO.retag f63 29; have c_20 := st53.then (st54.then (st78.then (st79.then (st80.then (st82.then (st81.then (st83.then (st84.then st85)))))))); replace sl37 := sl37.trans c_20; replace f40 := f40.step c_20; replace f41 := f41.step c_20; replace f42 := f42.step c_20; replace f62 := f62.step (st83.then (st84.then st85)); replace b := b.step (st84.then st85); exact ⟨(x32, (⟨t4.2.1.Setup, t4.2.1.Corrupted, t4.2.1.Acts, t4.2.1.Tapes, t4.2.1.Round, (t4.2.1.Sent ++ ([(⟨t4.2.1.Round, IntKind.i64.wrap (t2.1 + 1), IntKind.i64.wrap (t4.1 + 1), x31⟩ : TSent)] : List TSent))⟩ : TWorld)), ⟨_, _, _, _, _, _, _, _, _, _, _, _, _, _, _, _, _, sl37, rfl, rfl, f63, rfl, rfl, f40, rfl, f41, rfl, f42, rfl, f62, b⟩, q⟩
   refine ⟨_, _, _, b6.cell 4 rfl, ?_⟩; refine ⟨_, b6.cell 3 rfl, ?_⟩; refine condI (fun q => ?_) (fun q => ?_) q
   · refine condJ (fun q => ?_) (fun q => ?_) q
     · refine q (Zt xσ44) H_39 _ _ _ rfl (SlF.nil _ _ _ _ _) _ (fun Z18 H_46 hE17 hO17 x26 Y19 hY20 A46 n35 c46 hn24 f53 q => ?_); obtain ⟨xσ53, st64, fz17, fy18⟩ := call1 hE17 hO17 xσ44 31 (fun _ h => h) hY20; replace f53 := f53.keep fz17 fy18; cases hn24; refine ⟨_, _, _, rfl, ?_⟩; obtain ⟨xσ54, st65, f53⟩ := SlO.retag f53 29; have c_21 := st53.then (st54.then (st64.then st65)); replace sl37 := sl37.trans c_21; replace f40 := f40.step c_21; replace f41 := f41.step c_21; replace f42 := f42.step c_21; replace f43 := f43.step c_21; replace b := b.step c_21; exact ⟨(x26, t4.2.1), ⟨_, _, _, _, _, _, _, _, _, _, _, _, _, _, _, _, _, sl37, rfl, rfl, f53, rfl, rfl, f40, rfl, f41, rfl, f42, rfl, f43, b⟩, q⟩
     refine condJ (fun q => ?_) (fun q => ?_) q
     · refine q (Zt xσ44) H_39 _ _ _ rfl (SlF.nil _ _ _ _ _) _ (fun Z17 H_45 hE16 hO16 x25 Y18 hY19 A45 n34 c45 hn23 f52 q => ?_); obtain ⟨xσ51, st62, fz16, fy17⟩ := call1 hE16 hO16 xσ44 30 (fun _ h => h) hY19; replace f52 := f52.keep fz16 fy17; cases hn23; refine ⟨_, _, _, rfl, ?_⟩; obtain ⟨xσ52, st63, f52⟩ := SlO.retag f52 29; have c_22 := st53.then (st54.then (st62.then st63)); replace sl37 := sl37.trans c_22; replace f40 := f40.step c_22; replace f41 := f41.step c_22; replace f42 := f42.step c_22; replace f43 := f43.step c_22; replace b := b.step c_22; exact ⟨(x25, t4.2.1), ⟨_, _, _, _, _, _, _, _, _, _, _, _, _, _, _, _, _, sl37, rfl, rfl, f52, rfl, rfl, f40, rfl, f41, rfl, f42, rfl, f43, b⟩, q⟩
     replace b2 := b2.step (st6.then (st10.then (st11.then (st49.then (st51.then (st50.then (st52.then (st53.then st54)))))))); refine ⟨_, b2.cell0, ?_⟩; refine ⟨_, b2.cell0, ?_⟩; replace b := b.step (st53.then st54); refine ⟨_, _, _, b.cell 7 rfl, ?_⟩; refine ⟨_, b2.cell0, ?_⟩; refine ⟨_, b.cell 6 rfl, ?_⟩; refine q (Zt xσ44) H_39 _ _ _ rfl (SlF.nil _ _ _ _ _) _ (fun Z15 H_40 hE14 hO14 x23 Y16 hY17 A42 n32 c42 hn21 f48 q => ?_); obtain ⟨xσ45, st55, fz14, fy15⟩ := call1 hE14 hO14 xσ44 27 (fun _ h => h) hY17; replace f48 := f48.keep fz14 fy15; cases hn21; refine ⟨_, _, _, rfl, ?_⟩; replace b := b.step st55; replace b2 := b2.step st55; refine ⟨(b.cell 6 rfl), b2.cell0, (b.cell 7 rfl), b2.cell0, b2.cell0, ?_⟩; obtain ⟨xσ46, st56, f48⟩ := SlO.freeze f48; refine NewH.mk fun H_41 e19 => ?_; obtain ⟨xσ47, st57, f49⟩ := SlO.lit (E := TSent.L) xσ46 28 (xs := [(⟨t4.2.1.Round, IntKind.i64.wrap (t2.1 + 1), IntKind.i64.wrap (t4.1 + 1), x23⟩ : TSent)]) (l := [[_, _, _, _]]) e19 rfl (.cons (show (TSent.L).rep _ _ (⟨t4.2.1.Round, IntKind.i64.wrap (t2.1 + 1), IntKind.i64.wrap (t4.1 + 1), x23⟩ : TSent) _ from ⟨_, _, rfl, f48⟩) .nil) (show (1 : Nat) ≤ 17592186044416 by decide); have c_23 := st56.then st57; replace b := b.step c_23; replace b2 := b2.step c_23; refine ⟨(b.cell 7 rfl), b2.cell0, b2.cell0, ?_⟩; obtain ⟨xσ49, st59, f49⟩ := SlO.freeze f49; obtain ⟨q5, q⟩ := q; replace f43 := f43.step (st53.then (st54.then (st55.then (st56.then (st57.then st59))))); refine SlO.appF f43 f49 rfl rfl q5.l q5.r rfl rfl (fun A43 c43 H_42 xσ48 st58 f43_ => ?_); replace f43 := f43_; have f50 := f43; clear f43; replace b2 := b2.step (st59.then st58); refine ⟨b2.cell0, ?_⟩; replace b := b.step (st59.then st58); refine ⟨b.may 7 (show (7 : Nat) < 8 by decide), NewH.mk fun H_43 e20 => ?_⟩; obtain ⟨st60, b⟩ := b.wrote 7 (show (7 : Nat) < 8 by decide) e20; simp only [List.set_cons_zero, List.set_cons_succ] at b; refine q (Zt xσ48) H_43 _ _ _ rfl (SlF.nil _ _ _ _ _) _ (fun Z16 H_44 hE15 hO15 x24 Y17 hY18 A44 n33 c44 hn22 f51 q => ?_); obtain ⟨xσ50, st61, fz15, fy16⟩ := call1 hE15 hO15 xσ48 29 (fun _ h => h) hY18; replace f51 := f51.keep fz15 fy16; cases hn22; refine ⟨_, _, _, rfl, ?_⟩; have c_24 := st53.then (st54.then (st55.then (st56.then (st57.then (st59.then (st58.then (st60.then st61))))))); replace sl37 := sl37.trans c_24; replace f40 := f40.step c_24; replace f41 := f41.step c_24; replace f42 := f42.step c_24; replace f50 := f50.step (st60.then st61); replace b := b.step st61; exact ⟨(x24, (⟨t4.2.1.Setup, t4.2.1.Corrupted, t4.2.1.Acts, t4.2.1.Tapes, t4.2.1.Round, (t4.2.1.Sent ++ ([(⟨t4.2.1.Round, IntKind.i64.wrap (t2.1 + 1), IntKind.i64.wrap (t4.1 + 1), x23⟩ : TSent)] : List TSent))⟩ : TWorld)), ⟨_, _, _, _, _, _, _, _, _, _, _, _, _, _, _, _, _, sl37, rfl, rfl, f51, rfl, rfl, f40, rfl, f41, rfl, f42, rfl, f50, b⟩, q⟩
   refine condJ (fun q => ?_) (fun q => ?_) q
   · replace f47 := f47.step (st53.then st54); refine q (Zt xσ44) H_39 _ _ _ rfl f47 _ (fun Z22 H_53 hE21 hO21 x30 Y23 hY24 A51 n39 c51 hn28 f59 q => ?_); obtain ⟨xσ64, st76, fz21, fy22⟩ := call1 hE21 hO21 xσ44 36 (fun _ h => h) hY24; replace f59 := f59.keep fz21 fy22; cases hn28; refine ⟨_, _, _, rfl, ?_⟩; obtain ⟨xσ65, st77, f59⟩ := SlO.retag f59 29; have c_25 := st53.then (st54.then (st76.then st77)); replace sl37 := sl37.trans c_25; replace f40 := f40.step c_25; replace f41 := f41.step c_25; replace f42 := f42.step c_25; replace f43 := f43.step c_25; replace b := b.step c_25; exact ⟨(x30, t4.2.1), ⟨_, _, _, _, _, _, _, _, _, _, _, _, _, _, _, _, _, sl37, rfl, rfl, f59, rfl, rfl, f40, rfl, f41, rfl, f42, rfl, f43, b⟩, q⟩
   refine condJ (fun q => ?_) (fun q => ?_) q
   · replace f47 := f47.step (st53.then st54); refine q (Zt xσ44) H_39 _ _ _ rfl f47 _ (fun Z21 H_52 hE20 hO20 x29 Y22 hY23 A50 n38 c50 hn27 f58 q => ?_); obtain ⟨xσ62, st74, fz20, fy21⟩ := call1 hE20 hO20 xσ44 35 (fun _ h => h) hY23; replace f58 := f58.keep fz20 fy21; cases hn27; refine ⟨_, _, _, rfl, ?_⟩; obtain ⟨xσ63, st75, f58⟩ := SlO.retag f58 29; have c_26 := st53.then (st54.then (st74.then st75)); replace sl37 := sl37.trans c_26; replace f40 := f40.step c_26; replace f41 := f41.step c_26; replace f42 := f42.step c_26; replace f43 := f43.step c_26; replace b := b.step c_26; exact ⟨(x29, t4.2.1), ⟨_, _, _, _, _, _, _, _, _, _, _, _, _, _, _, _, _, sl37, rfl, rfl, f58, rfl, rfl, f40, rfl, f41, rfl, f42, rfl, f43, b⟩, q⟩
   replace b2 := b2.step (st6.then (st10.then (st11.then (st49.then (st51.then (st50.then (st52.then (st53.then st54)))))))); refine ⟨_, b2.cell0, ?_⟩; refine ⟨_, b2.cell0, ?_⟩; replace b := b.step (st53.then st54); refine ⟨_, _, _, b.cell 7 rfl, ?_⟩; refine ⟨_, b2.cell0, ?_⟩; refine ⟨_, b.cell 6 rfl, ?_⟩; replace f47 := f47.step (st53.then st54); refine q (Zt xσ44) H_39 _ _ _ rfl f47 _ (fun Z19 H_47 hE18 hO18 x27 Y20 hY21 A47 n36 c47 hn25 f54 q => ?_); obtain ⟨xσ55, st66, fz18, fy19⟩ := call1 hE18 hO18 xσ44 32 (fun _ h => h) hY21; replace f54 := f54.keep fz18 fy19; cases hn25; refine ⟨_, _, _, rfl, ?_⟩; replace b := b.step st66; replace b2 := b2.step st66; refine ⟨(b.cell 6 rfl), b2.cell0, (b.cell 7 rfl), b2.cell0, b2.cell0, ?_⟩; obtain ⟨xσ56, st67, f54⟩ := SlO.freeze f54; refine NewH.mk fun H_48 e21 => ?_; obtain ⟨xσ57, st68, f55⟩ := SlO.lit (E := TSent.L) xσ56 33 (xs := [(⟨t4.2.1.Round, IntKind.i64.wrap (t2.1 + 1), IntKind.i64.wrap (t4.1 + 1), x27⟩ : TSent)]) (l := [[_, _, _, _]]) e21 rfl (.cons (show (TSent.L).rep _ _ (⟨t4.2.1.Round, IntKind.i64.wrap (t2.1 + 1), IntKind.i64.wrap (t4.1 + 1), x27⟩ : TSent) _ from ⟨_, _, rfl, f54⟩) .nil) (show (1 : Nat) ≤ 17592186044416 by decide); have c_27 := st67.then st68; replace b := b.step c_27; replace b2 := b2.step c_27; refine ⟨(b.cell 7 rfl), b2.cell0, b2.cell0, ?_⟩; obtain ⟨xσ59, st70, f55⟩ := SlO.freeze f55; obtain ⟨q6, q⟩ := q; replace f43 := f43.step (st53.then (st54.then (st66.then (st67.then (st68.then st70))))); refine SlO.appF f43 f55 rfl rfl q6.l q6.r rfl rfl (fun A48 c48 H_49 xσ58 st69 f43_ => ?_); replace f43 := f43_; have f56 := f43; clear f43; replace b2 := b2.step (st70.then st69); refine ⟨b2.cell0, ?_⟩; replace b := b.step (st70.then st69); refine ⟨b.may 7 (show (7 : Nat) < 8 by decide), NewH.mk fun H_50 e22 => ?_⟩; obtain ⟨st71, b⟩ := b.wrote 7 (show (7 : Nat) < 8 by decide) e22; simp only [List.set_cons_zero, List.set_cons_succ] at b; replace f47 := f47.step (st66.then (st67.then (st68.then (st70.then (st69.then st71))))); refine q (Zt xσ58) H_50 _ _ _ rfl f47 _ (fun Z20 H_51 hE19 hO19 x28 Y21 hY22 A49 n37 c49 hn26 f57 q => ?_); obtain ⟨xσ60, st72, fz19, fy20⟩ := call1 hE19 hO19 xσ58 34 (fun _ h => h) hY22; replace f57 := f57.keep fz19 fy20; cases hn26; refine ⟨_, _, _, rfl, ?_⟩; obtain ⟨xσ61, st73, f57⟩ := SlO.retag f57 29; have c_28 := st53.then (st54.then (st66.then (st67.then (st68.then (st70.then (st69.then (st71.then (st72.then st73)))))))); replace sl37 := sl37.trans c_28; replace f40 := f40.step c_28; replace f41 := f41.step c_28; replace f42 := f42.step c_28; replace f56 := f56.step (st71.then (st72.then st73)); replace b := b.step (st72.then st73); exact ⟨(x28, (⟨t4.2.1.Setup, t4.2.1.Corrupted, t4.2.1.Acts, t4.2.1.Tapes, t4.2.1.Round, (t4.2.1.Sent ++ ([(⟨t4.2.1.Round, IntKind.i64.wrap (t2.1 + 1), IntKind.i64.wrap (t4.1 + 1), x27⟩ : TSent)] : List TSent))⟩ : TWorld)), ⟨_, _, _, _, _, _, _, _, _, _, _, _, _, _, _, _, _, sl37, rfl, rfl, f57, rfl, rfl, f40, rfl, f41, rfl, f42, rfl, f56, b⟩, q⟩
 rintro t5 _ H_61 ⟨xσ77, A57, n44, c57, x35, A58, n45, c58, A59, n46, c59, A60, n47, c60, A61, n48, c61, st90, rfl, rfl, f66, rfl, rfl, f67, rfl, f68, rfl, f69, rfl, f70, b⟩ q; (try dsimp only at q ⊢); refine ⟨_, _, _, rfl, ?_⟩; replace hc8 := hc8.step st90; refine ⟨hc8.val, ?_⟩; obtain ⟨h07, hi10, q⟩ := q; obtain ⟨a7, ha7, hi9⟩ := SlF.addr g h07 (List.getElem?_eq_getElem (idx_lt rfl h07 hi10)) rfl; refine ⟨a7, ha7, hi9.1, hi9.2, ?_⟩; obtain ⟨xσ78, st91, f66⟩ := SlO.freeze f66; replace f9 := f9.step (st90.then st91); replace hc8 := hc8.step st91; have w3 := fun v hr => SlO.set2 (v := v) (y := t5.1) f9 rfl ha4 h04 hx5 hc8 ha7 h07 (lt_of_n rfl hi10) hr; refine ⟨(w3 _ (slL_rep rfl f66)).1, NewH.mk fun H_62 e25 => ?_⟩; obtain ⟨st92, f9, hh⟩ := (w3 _ (slL_rep rfl f66)).2 H_62 e25; replace hc8 := hh _ _ hc8; replace sl35 := sl35.trans (st90.then (st91.then st92)); have c_29 := st91.then st92; replace f67 := f67.step c_29; replace f68 := f68.step c_29; replace f69 := f69.step c_29; replace f70 := f70.step c_29; replace b := b.step c_29; exact hnext3 (IntKind.i64.wrap (t4.1 + 1), t5.2, (List.set t4.2.2 (Int.toNat t4.1) (List.set x20 (Int.toNat t2.1) t5.1))) _ _ ⟨_, _, _, _, _, _, _, _, _, _, _, _, _, _, sl35, rfl, rfl, rfl, f67, rfl, f68, rfl, f69, rfl, f70, b, (set_back (((rfl : _ = _).trans hl2.symm).trans hl3.symm) (set_len (((rfl : _ = _).trans hl2.symm).trans hl3.symm)) hl3), f9⟩ q
def net_Table_Round.C (t : TTable) (world : TWorld) (private_ : (List (List (List Nat)))) (said : (List (List Nat))) (K : (List (List (List Nat))) → (List (List Nat)) → TTable → TWorld → Prop) : Prop :=
 ∀ (Z : Nat → Prop) (τ : Nat → Nat) (H : Heap), (∀ i, τ i ≠ 0 → ¬ Z i) → ∀ (tP : Nat), ∀ (v : Int), v = (t.Setup.P : Int) → ∀ (A : Option Addr) (n c : Nat), n = t.tapes.length → SlO (rdM (slL u64L)) 47 Z (Yt τ 2) H A c t.tapes → ∀ (worldP : Nat), ∀ (v2 : Int), v2 = (world.Setup.P : Int) → ∀ (A2 : Option Addr) (n2 c2 : Nat), n2 = world.Corrupted.length → SlF i64L Z H A2 c2 world.Corrupted → ∀ (A3 : Option Addr) (n3 c3 : Nat), n3 = world.Acts.length → SlF TAct.L Z H A3 c3 world.Acts → ∀ (A4 : Option Addr) (n4 c4 : Nat), n4 = world.Tapes.length → SlO (rdM (slL u64L)) 47 Z (Yt τ 4) H A4 c4 world.Tapes → ∀ (A5 : Option Addr) (n5 c5 : Nat), n5 = world.Sent.length → SlO (rdM TSent.L) 57 Z (Yt τ 5) H A5 c5 world.Sent → BoxF 3 τ H worldP [.int .u64 v2, .int .i64 world.Setup.N, .int .i64 world.Setup.T_, .slice A2 n2 c2, .slice A3 n3 c3, .slice A4 n4 c4, .int .i64 world.Round, .slice A5 n5 c5] 30 → BoxF 1 τ H tP [.int .u64 v, .int .i64 t.Setup.N, .int .i64 t.Setup.T_, .slice A n c, .func (.func 44) #[] #[.pointer (some (Addr.mk worldP 0 none))]] 78 → ∀ (privateA : Option Addr) (privaten privatec : Nat), privaten = private_.length → SlF (slL (slL u64L)) Z H privateA privatec private_ → ∀ (saidA : Option Addr) (saidn saidc : Nat), saidn = said.length → SlF (slL u64L) Z H saidA saidc said → ∀ KK : Value → Heap → Prop,
   (∀ (Z' : Nat → Prop) (τ' : Nat → Nat) (H' : Heap), Turn τ H τ' H' → OldT Z τ H Z' → (∀ i, τ' i ≠ 0 → ¬ Z' i) → ∀ (r0 : (List (List (List Nat)))), ∀ (Ar0_0 : Option Addr) (nr0_0 cr0_0 : Nat), nr0_0 = r0.length → SlF (slL (slL u64L)) Z' H' Ar0_0 cr0_0 r0 → ∀ (r1 : (List (List Nat))), ∀ (Ar1_0 : Option Addr) (nr1_0 cr1_0 : Nat), nr1_0 = r1.length → SlF (slL u64L) Z' H' Ar1_0 cr1_0 r1 → ∀ (o0 : TTable), ∀ (vo0_0 : Int), vo0_0 = (o0.Setup.P : Int) → ∀ (Ao0_3 : Option Addr) (no0_3 co0_3 : Nat), no0_3 = o0.tapes.length → SlO (rdM (slL u64L)) 47 Z' (Yt τ' 2) H' Ao0_3 co0_3 o0.tapes → BoxF 1 τ' H' tP [.int .u64 vo0_0, .int .i64 o0.Setup.N, .int .i64 o0.Setup.T_, .slice Ao0_3 no0_3 co0_3, .func (.func 44) #[] #[.pointer (some (Addr.mk worldP 0 none))]] 78 → ∀ (o1 : TWorld), ∀ (vo1_0 : Int), vo1_0 = (o1.Setup.P : Int) → ∀ (Ao1_3 : Option Addr) (no1_3 co1_3 : Nat), no1_3 = o1.Corrupted.length → SlF i64L Z' H' Ao1_3 co1_3 o1.Corrupted → ∀ (Ao1_4 : Option Addr) (no1_4 co1_4 : Nat), no1_4 = o1.Acts.length → SlF TAct.L Z' H' Ao1_4 co1_4 o1.Acts → ∀ (Ao1_5 : Option Addr) (no1_5 co1_5 : Nat), no1_5 = o1.Tapes.length → SlO (rdM (slL u64L)) 47 Z' (Yt τ' 4) H' Ao1_5 co1_5 o1.Tapes → ∀ (Ao1_7 : Option Addr) (no1_7 co1_7 : Nat), no1_7 = o1.Sent.length → SlO (rdM TSent.L) 57 Z' (Yt τ' 5) H' Ao1_7 co1_7 o1.Sent → BoxF 3 τ' H' worldP [.int .u64 vo1_0, .int .i64 o1.Setup.N, .int .i64 o1.Setup.T_, .slice Ao1_3 no1_3 co1_3, .slice Ao1_4 no1_4 co1_4, .slice Ao1_5 no1_5 co1_5, .int .i64 o1.Round, .slice Ao1_7 no1_7 co1_7] 30 → K r0 r1 o0 o1 → KK (.tuple #[.slice Ar0_0 nr0_0 cr0_0, .slice Ar1_0 nr1_0 cr1_0]) H') →
   CallH P N.net_Table_Round [.pointer (some (Addr.mk tP 0 none)), .slice privateA privaten privatec, .slice saidA saidn saidc] H KK
def net_Table_Round.Q (t : TTable) (world : TWorld) (private_ : (List (List (List Nat)))) (said : (List (List Nat))) (K : (List (List (List Nat))) → (List (List Nat)) → TTable → TWorld → Prop) : Prop :=
 net_swap.C world private_ said (fun (r : (List (List (List Nat)))) (r2 : (List (List Nat))) (o : TWorld) =>
 K r r2 t o)
theorem net_Table_Round.q {t : TTable} {world : TWorld} {private_ : (List (List (List Nat)))} {said : (List (List Nat))} {K : (List (List (List Nat))) → (List (List Nat)) → TTable → TWorld → Prop} (q : net_Table_Round.Q t world private_ said K) : net_Table_Round.C t world private_ said K := by
 intro Z τ H hτ tP v he A n c hn f worldP v2 he2 A2 n2 c2 hn2 f2 A3 n3 c3 hn3 f3 A4 n4 c4 hn4 f4 A5 n5 c5 hn5 f5 b2 b privateA privaten privatec hn6 f6 saidA saidn saidc hn7 f7 KK hk; cases he; cases hn; cases he2; cases hn2; cases hn3; cases hn4; cases hn5; cases hn6; cases hn7; apply net_Table_Round.ok; unfold net_Table_Round.W; unfold net_Table_Round.Q at q; obtain ⟨σ, hz, hy, hσ⟩ := tags2 Z τ 5 hτ; have hs : Stp ([3, 4, 5] : List Nat) σ H σ H := Stp.refl _ _ _; replace f := SlO.keep f (Fr.wide hz _) (Fr.wide (hy 2 (by decide) (by decide)) _); replace f2 := f2.wide hz; replace f3 := f3.wide hz; replace f4 := SlO.keep f4 (Fr.wide hz _) (Fr.wide (hy 4 (by decide) (by decide)) _); replace f5 := SlO.keep f5 (Fr.wide hz _) (Fr.wide (hy 5 (by decide) (by decide)) _); replace b2 := BoxF.mk b2.blk (hy 3 (by decide) (by decide) _ b2.tag); replace b := BoxF.mk b.blk (hy 1 (by decide) (by decide) _ b.tag); replace f6 := f6.wide hz; replace f7 := f7.wide hz; clear hz; clear hy; refine ⟨_, _, _, b.cell 4 rfl, ?_⟩; refine ct rfl ?_; apply net_Play_1.ok; unfold net_Play_1.W; refine q (Zt σ) (ren [3, 4, 5] σ) H (ren_z _ _) _ _ rfl _ _ _ rfl f2 _ _ _ rfl f3 _ _ _ rfl (SlO.keep f4 (Fr.refl _ _) (Fr.wide (ren_y (js := [3, 4, 5]) (j := 4) (m := 2) (by decide) (by decide)) _)) _ _ _ rfl (SlO.keep f5 (Fr.refl _ _) (Fr.wide (ren_y (js := [3, 4, 5]) (j := 5) (m := 3) (by decide) (by decide)) _)) ⟨b2.blk, (ren_y (js := [3, 4, 5]) (j := 3) (m := 1) (by decide) (by decide)) _ b2.tag⟩ _ _ _ rfl f6 _ _ _ rfl f7 _ (fun Z2 xτ H_ hT hO hd r A6 n6 c6 hn8 f8 r2 A7 n7 c7 hn9 f9 o v3 he3 A8 n8 c8 hn10 f10 A9 n9 c9 hn11 f11 A10 n10 c10 hn12 f12 A11 n11 c11 hn13 f13 b2 q => ?_); obtain ⟨xσ, st, fz, fy⟩ := callT hT hO hd [3, 4, 5]; replace f8 := f8.keep fz; replace f9 := f9.keep fz; replace f10 := f10.keep fz; replace f11 := f11.keep fz; replace f12 := SlO.keep f12 fz (Fr.wide (fy 1 4 rfl) _); replace f13 := SlO.keep f13 fz (Fr.wide (fy 2 5 rfl) _); replace b2 := BoxF.mk b2.blk (fy 0 3 rfl _ b2.tag); cases hn8; cases hn9; cases he3; cases hn10; cases hn11; cases hn12; cases hn13; refine ⟨_, _, _, _, _, _, rfl, ?_⟩; refine ⟨_, _, _, _, _, _, rfl, ?_⟩; replace hs := hs.trans st; replace f := f.step st; replace b := b.step st; exact hk (Zt xσ) (ren [1, 2, 3, 4, 5] xσ) _ (hs.turn hσ) (hs.oldT hσ) (ren_z _ _) r _ _ _ rfl f8 r2 _ _ _ rfl f9 t _ rfl _ _ _ rfl (SlO.keep f (Fr.refl _ _) (Fr.wide (ren_y (js := [1, 2, 3, 4, 5]) (j := 2) (m := 2) (by decide) (by decide)) _)) ⟨b.blk, ren_y (js := [1, 2, 3, 4, 5]) (j := 1) (m := 1) (by decide) (by decide) _ b.tag⟩ o _ rfl _ _ _ rfl f10 _ _ _ rfl f11 _ _ _ rfl (SlO.keep f12 (Fr.refl _ _) (Fr.wide (ren_y (js := [1, 2, 3, 4, 5]) (j := 4) (m := 4) (by decide) (by decide)) _)) _ _ _ rfl (SlO.keep f13 (Fr.refl _ _) (Fr.wide (ren_y (js := [1, 2, 3, 4, 5]) (j := 5) (m := 5) (by decide) (by decide)) _)) ⟨b2.blk, ren_y (js := [1, 2, 3, 4, 5]) (j := 3) (m := 3) (by decide) (by decide) _ b2.tag⟩ q
def net_Clone.C (w : TWorld) (K : TWorld → Prop) : Prop :=
 ∀ (Z : Nat → Prop) (H : Heap), ∀ (wv : Int), wv = (w.Setup.P : Int) → ∀ (wA : Option Addr) (wn wc : Nat), wn = w.Corrupted.length → SlF i64L Z H wA wc w.Corrupted → ∀ (wA2 : Option Addr) (wn2 wc2 : Nat), wn2 = w.Acts.length → SlF TAct.L Z H wA2 wc2 w.Acts → ∀ (wA3 : Option Addr) (wn3 wc3 : Nat), wn3 = w.Tapes.length → SlF (slL u64L) Z H wA3 wc3 w.Tapes → ∀ (wA4 : Option Addr) (wn4 wc4 : Nat), wn4 = w.Sent.length → SlF TSent.L Z H wA4 wc4 w.Sent → ∀ KK : Value → Heap → Prop,
   (∀ (Z' : Nat → Prop) (H' : Heap), Ext H H' → Old Z H Z' → ∀ (r0 : TWorld), ∀ (Y0_5 : Nat → Prop), (∀ i, Y0_5 i → H.size ≤ i ∧ ¬ Z' i) → ∀ (Y0_7 : Nat → Prop), (∀ i, Y0_7 i → H.size ≤ i ∧ ¬ Z' i) → ∀ (r0v0 : Int), r0v0 = (r0.Setup.P : Int) → ∀ (Ar0_3 : Option Addr) (nr0_3 cr0_3 : Nat), nr0_3 = r0.Corrupted.length → SlF i64L Z' H' Ar0_3 cr0_3 r0.Corrupted → ∀ (Ar0_4 : Option Addr) (nr0_4 cr0_4 : Nat), nr0_4 = r0.Acts.length → SlF TAct.L Z' H' Ar0_4 cr0_4 r0.Acts → ∀ (Ar0_5 : Option Addr) (nr0_5 cr0_5 : Nat), nr0_5 = r0.Tapes.length → SlO (rdM (slL u64L)) 47 Z' Y0_5 H' Ar0_5 cr0_5 r0.Tapes → ∀ (Ar0_7 : Option Addr) (nr0_7 cr0_7 : Nat), nr0_7 = r0.Sent.length → SlO (rdM TSent.L) 57 Z' Y0_7 H' Ar0_7 cr0_7 r0.Sent → (∀ i, Y0_5 i → ¬ Y0_7 i) → K r0 → KK (.agg #[.int .u64 r0v0, .int .i64 r0.Setup.N, .int .i64 r0.Setup.T_, .slice Ar0_3 nr0_3 cr0_3, .slice Ar0_4 nr0_4 cr0_4, .slice Ar0_5 nr0_5 cr0_5, .int .i64 r0.Round, .slice Ar0_7 nr0_7 cr0_7]) H') →
   CallH P N.net_Clone [.agg #[.int .u64 wv, .int .i64 w.Setup.N, .int .i64 w.Setup.T_, .slice wA wn wc, .slice wA2 wn2 wc2, .slice wA3 wn3 wc3, .int .i64 w.Round, .slice wA4 wn4 wc4]] H KK
def net_Clone.Q (w : TWorld) (K : TWorld → Prop) : Prop :=
 slices_Clone_intint.C w.Corrupted (fun (x : (List Int)) =>
 slices_Clone_juntoapiActjuntoapiAct.C w.Acts (fun (x2 : (List TAct)) =>
 LoopQ (τ := Int × List TAct) (0, x2) fun t nextQ =>
 cond (decide (t.1 < ((x2.length : Nat) : Int))) (0 ≤ t.1 ∧ t.1 < ((x2.length : Nat) : Int) ∧ ∃ x3 : TAct, t.2[Int.toNat t.1]? = some x3 ∧ slices_Clone_uint64uint64.C x3.Data (fun (x4 : (List Nat)) =>
 0 ≤ t.1 ∧ t.1 < ((x2.length : Nat) : Int) ∧ ∃ x5 : TAct, t.2[Int.toNat t.1]? = some x5 ∧ nextQ (IntKind.i64.wrap (t.1 + 1), (List.set t.2 (Int.toNat t.1) (⟨x5.Round, x5.From, x5.To, x5.Silent, x4⟩ : TAct)))))
  (slices_Clone_LLuint64Luint64.C w.Tapes (fun (x6 : (List (List Nat))) =>
 LoopQ (τ := Int × List (List Nat)) (0, x6) fun t2 nextQ2 =>
 cond (decide (t2.1 < ((x6.length : Nat) : Int))) (0 ≤ t2.1 ∧ t2.1 < ((x6.length : Nat) : Int) ∧ ∃ x7 : (List Nat), t2.2[Int.toNat t2.1]? = some x7 ∧ slices_Clone_uint64uint64.C x7 (fun (x8 : (List Nat)) =>
 0 ≤ t2.1 ∧ t2.1 < ((x6.length : Nat) : Int) ∧ nextQ2 (IntKind.i64.wrap (t2.1 + 1), (List.set t2.2 (Int.toNat t2.1) x8))))
  (slices_Clone_juntoapiSentjuntoapiSent.C w.Sent (fun (x9 : (List TSent)) =>
 LoopQ (τ := Int × List TSent) (0, x9) fun t3 nextQ3 =>
 cond (decide (t3.1 < ((x9.length : Nat) : Int))) (0 ≤ t3.1 ∧ t3.1 < ((x9.length : Nat) : Int) ∧ ∃ x10 : TSent, t3.2[Int.toNat t3.1]? = some x10 ∧ slices_Clone_uint64uint64.C x10.Data (fun (x11 : (List Nat)) =>
 0 ≤ t3.1 ∧ t3.1 < ((x9.length : Nat) : Int) ∧ ∃ x12 : TSent, t3.2[Int.toNat t3.1]? = some x12 ∧ nextQ3 (IntKind.i64.wrap (t3.1 + 1), (List.set t3.2 (Int.toNat t3.1) (⟨x12.Round, x12.From, x12.To, x11⟩ : TSent)))))
  (K (⟨w.Setup, x, t.2, t2.2, w.Round, t3.2⟩ : TWorld))))))))
theorem net_Clone.q {w : TWorld} {K : TWorld → Prop} (q : net_Clone.Q w K) : net_Clone.C w K := by
 intro Z H wv he wA wn wc hn f wA2 wn2 wc2 hn2 f2 wA3 wn3 wc3 hn3 f3 wA4 wn4 wc4 hn4 f4 KK hk; cases he; cases hn; cases hn2; cases hn3; cases hn4; apply net_Clone.ok; unfold net_Clone.W; unfold net_Clone.Q at q; obtain ⟨σ, hz, hσ⟩ := tags Z; have hs : Stp ([1, 2, 3, 4, 5, 6, 7, 8, 9] : List Nat) σ H σ H := Stp.refl _ _ _; replace f := f.wide hz; replace f2 := f2.wide hz; replace f3 := f3.wide hz; replace f4 := f4.wide hz; clear hz; refine NewH.mk fun H_ e => ?_; obtain ⟨xσ, st, b⟩ := BoxF.new σ 1 e; refine NewH.mk fun H_2 e2 => ?_; obtain ⟨xσ2, st2, b2⟩ := BoxF.new xσ 2 e2; replace b := b.step st2; refine ⟨_, _, _, b.cell 3 rfl, ?_⟩; replace f := f.step (st.then st2); refine q (Zt xσ2) H_2 _ _ _ rfl f _ (fun Z2 H_3 hE hO x Y hY A n c hn5 f5 q => ?_); obtain ⟨xσ3, st3, fz, fy⟩ := call1 hE hO xσ2 3 (fun _ h => h) hY; replace f5 := f5.keep fz fy; cases hn5; refine ⟨_, _, _, rfl, ?_⟩; obtain ⟨xσ4, st4, f5⟩ := SlO.freeze f5; replace b := b.step (st3.then st4); refine ⟨b.may 3 (show (3 : Nat) < 8 by decide), NewH.mk fun H_4 e3 => ?_⟩; obtain ⟨st5, b⟩ := b.wrote 3 (show (3 : Nat) < 8 by decide) e3; simp only [List.set_cons_zero, List.set_cons_succ] at b; refine ⟨_, _, _, b.cell 4 rfl, ?_⟩; replace f2 := f2.step (st.then (st2.then (st3.then (st4.then st5)))); refine q (Zt xσ4) H_4 _ _ _ rfl f2 _ (fun Z3 H_5 hE2 hO2 x2 Y2 hY2 A2 n2 c2 hn6 f6 q => ?_); obtain ⟨xσ5, st6, fz2, fy2⟩ := call1 hE2 hO2 xσ4 4 (fun _ h => h) hY2; replace f6 := f6.keep fz2 fy2; cases hn6; refine ⟨_, _, _, rfl, ?_⟩; replace b := b.step st6; refine ⟨b.may 4 (show (4 : Nat) < 8 by decide), NewH.mk fun H_6 e4 => ?_⟩; obtain ⟨st7, b⟩ := b.wrote 4 (show (4 : Nat) < 8 by decide) e4; simp only [List.set_cons_zero, List.set_cons_succ] at b; refine ⟨_, _, _, b.cell 4 rfl, ?_⟩; replace f6 := f6.step st7; refine LoopI.ofQ q (fun t_ s_ hp_ => ∃ σ_, Stp [4, 5] xσ5 H_6 σ_ hp_ ∧ t_.1 = s_ ∧ t_.2.length = x2.length ∧ SlO (rdM TAct.L) 60 (Zt σ_) (Yt σ_ 4) hp_ A2 c2 t_.2) (fun h k => h _ _ k) ⟨_, Stp.refl _ _ _, rfl, rfl, f6⟩ ?_; rintro t _ _ H_7 next nextQ ⟨xσ6, st8, rfl, hl, f6⟩ q hnext; (try dsimp only at q ⊢); have sl7 := st8; refine condI (fun q => ?_) (fun q => ?_) q
 · replace b := b.step st8; refine ⟨_, _, _, b.cell 4 rfl, ?_⟩; refine ⟨_, _, _, b.cell 4 rfl, ?_⟩; obtain ⟨h0, hi2, q⟩ := q; obtain ⟨a, ha, hi⟩ := f6.addr h0 ((rfl : _ = _).trans hl.symm) hi2; refine ⟨a, ha, hi.1, hi.2, ?_⟩; obtain ⟨x3, hx, q⟩ := q; obtain ⟨cs, hr, hc⟩ := f6.ldN (k := 5) rfl ha h0 hx; obtain ⟨A3, c3, rfl, f7⟩ := hr; have hc2 := hc 4 _ rfl; refine ⟨_, _, _, hc2.val, ?_⟩; refine q (Zt xσ6) H_7 _ _ _ rfl f7 _ (fun Z4 H_8 hE3 hO3 x4 Y3 hY3 A4 n3 c4 hn7 f8 q => ?_); obtain ⟨xσ7, st9, fz3, fy3⟩ := call1 hE3 hO3 xσ6 5 (fun _ h => h) hY3; replace f8 := f8.keep fz3 fy3; cases hn7; refine ⟨_, _, _, rfl, ?_⟩; replace b := b.step st9; refine ⟨(b.cell 4 rfl), ?_⟩; obtain ⟨h02, hi4, q⟩ := q; replace f6 := f6.step st9; obtain ⟨a2, ha2, hi3⟩ := f6.addr h02 ((rfl : _ = _).trans hl.symm) hi4; refine ⟨a2, ha2, hi3.1, hi3.2, ?_⟩; obtain ⟨xσ8, st11, f8⟩ := SlO.freeze f8; obtain ⟨x5, hx2, q⟩ := q; replace f6 := f6.step st11; have w2 := fun v hv => SlO.setF (k := 5) (y := (⟨x5.Round, x5.From, x5.To, x5.Silent, x4⟩ : TAct)) (v := v) (EF := (slL u64L)) (xv := x4) f6 rfl ha2 h02 hx2 4 (by decide) hv (fun cs hv hc => by obtain ⟨A_, c_, e_, h_⟩ := hv; cases e_; obtain ⟨A4_, c4_, e0_, h4_⟩ := hc; cases e0_; exact ⟨A_, c_, rfl, h_⟩); refine ⟨(w2 _ (slL_rep rfl f8)).1, NewH.mk fun H_9 e5 => ?_⟩; obtain ⟨st10, f6⟩ := (w2 _ (slL_rep rfl f8)).2 H_9 e5; replace sl7 := sl7.trans (st9.then (st11.then st10)); exact hnext (IntKind.i64.wrap (t.1 + 1), (List.set t.2 (Int.toNat t.1) (⟨x5.Round, x5.From, x5.To, x5.Silent, x4⟩ : TAct))) _ _ ⟨_, sl7, rfl, (set_back ((rfl : _ = _).trans hl.symm) (set_len ((rfl : _ = _).trans hl.symm)) hl), f6⟩ q
 replace b := b.step st8; refine ⟨_, _, _, b.cell 5 rfl, ?_⟩; replace f3 := f3.step (st.then (st2.then (st3.then (st4.then (st5.then (st6.then (st7.then st8))))))); refine q (Zt xσ6) H_7 _ _ _ rfl f3 _ (fun Z5 H_10 hE4 hO4 x6 Y4 hY4 A5 n4 c5 hn8 f9 q => ?_); obtain ⟨xσ9, st12, fz4, fy4⟩ := call1 hE4 hO4 xσ6 6 (fun _ h => h) hY4; replace f9 := f9.keep fz4 fy4; cases hn8; refine ⟨_, _, _, rfl, ?_⟩; replace b := b.step st12; refine ⟨b.may 5 (show (5 : Nat) < 8 by decide), NewH.mk fun H_11 e6 => ?_⟩; obtain ⟨st13, b⟩ := b.wrote 5 (show (5 : Nat) < 8 by decide) e6; simp only [List.set_cons_zero, List.set_cons_succ] at b; refine ⟨_, _, _, b.cell 5 rfl, ?_⟩; replace f9 := f9.step st13; refine LoopI.ofQ q (fun t_ s_ hp_ => ∃ σ_, Stp [6, 7] xσ9 H_11 σ_ hp_ ∧ t_.1 = s_ ∧ t_.2.length = x6.length ∧ SlO (rdM (slL u64L)) 47 (Zt σ_) (Yt σ_ 6) hp_ A5 c5 t_.2) (fun h k => h _ _ k) ⟨_, Stp.refl _ _ _, rfl, rfl, f9⟩ ?_; rintro t2 _ _ H_12 next2 nextQ2 ⟨xσ10, st14, rfl, hl2, f9⟩ q hnext2; (try dsimp only at q ⊢); have sl11 := st14; refine condI (fun q => ?_) (fun q => ?_) q
 · replace b := b.step st14; refine ⟨_, _, _, b.cell 5 rfl, ?_⟩; refine ⟨_, _, _, b.cell 5 rfl, ?_⟩; obtain ⟨h03, hi6, q⟩ := q; obtain ⟨a3, ha3, hi5⟩ := f9.addr h03 ((rfl : _ = _).trans hl2.symm) hi6; refine ⟨a3, ha3, hi5.1, hi5.2, ?_⟩; obtain ⟨x7, hx3, q⟩ := q; obtain ⟨A6, c6, hc3, f10⟩ := f9.lds ha3 h03 hx3; refine ⟨_, _, _, hc3.val, ?_⟩; refine q (Zt xσ10) H_12 _ _ _ rfl f10 _ (fun Z6 H_13 hE5 hO5 x8 Y5 hY5 A7 n5 c7 hn9 f11 q => ?_); obtain ⟨xσ11, st15, fz5, fy5⟩ := call1 hE5 hO5 xσ10 7 (fun _ h => h) hY5; replace f11 := f11.keep fz5 fy5; cases hn9; refine ⟨_, _, _, rfl, ?_⟩; replace b := b.step st15; refine ⟨(b.cell 5 rfl), ?_⟩; obtain ⟨h04, hi8, q⟩ := q; replace f9 := f9.step st15; obtain ⟨a4, ha4, hi7⟩ := f9.addr h04 ((rfl : _ = _).trans hl2.symm) hi8; refine ⟨a4, ha4, hi7.1, hi7.2, ?_⟩; obtain ⟨xσ12, st17, f11⟩ := SlO.freeze f11; replace f9 := f9.step st17; have w3 := fun v hr => SlO.set1 (v := v) (y := x8) f9 rfl ha4 h04 (lt_of_n ((rfl : _ = _).trans hl2.symm) hi8) hr; refine ⟨(w3 _ (slL_rep rfl f11)).1, NewH.mk fun H_14 e7 => ?_⟩; obtain ⟨st16, f9⟩ := (w3 _ (slL_rep rfl f11)).2 H_14 e7; replace sl11 := sl11.trans (st15.then (st17.then st16)); exact hnext2 (IntKind.i64.wrap (t2.1 + 1), (List.set t2.2 (Int.toNat t2.1) x8)) _ _ ⟨_, sl11, rfl, (set_back ((rfl : _ = _).trans hl2.symm) (set_len ((rfl : _ = _).trans hl2.symm)) hl2), f9⟩ q
 replace b := b.step st14; refine ⟨_, _, _, b.cell 7 rfl, ?_⟩; replace f4 := f4.step (st.then (st2.then (st3.then (st4.then (st5.then (st6.then (st7.then (st8.then (st12.then (st13.then st14)))))))))); refine q (Zt xσ10) H_12 _ _ _ rfl f4 _ (fun Z7 H_15 hE6 hO6 x9 Y6 hY6 A8 n6 c8 hn10 f12 q => ?_); obtain ⟨xσ13, st18, fz6, fy6⟩ := call1 hE6 hO6 xσ10 8 (fun _ h => h) hY6; replace f12 := f12.keep fz6 fy6; cases hn10; refine ⟨_, _, _, rfl, ?_⟩; replace b := b.step st18; refine ⟨b.may 7 (show (7 : Nat) < 8 by decide), NewH.mk fun H_16 e8 => ?_⟩; obtain ⟨st19, b⟩ := b.wrote 7 (show (7 : Nat) < 8 by decide) e8; simp only [List.set_cons_zero, List.set_cons_succ] at b; refine ⟨_, _, _, b.cell 7 rfl, ?_⟩; replace f12 := f12.step st19; refine LoopI.ofQ q (fun t_ s_ hp_ => ∃ σ_, Stp [8, 9] xσ13 H_16 σ_ hp_ ∧ t_.1 = s_ ∧ t_.2.length = x9.length ∧ SlO (rdM TSent.L) 57 (Zt σ_) (Yt σ_ 8) hp_ A8 c8 t_.2) (fun h k => h _ _ k) ⟨_, Stp.refl _ _ _, rfl, rfl, f12⟩ ?_; rintro t3 _ _ H_17 next3 nextQ3 ⟨xσ14, st20, rfl, hl3, f12⟩ q hnext3; (try dsimp only at q ⊢); have sl13 := st20; refine condJ (fun q => ?_) (fun q => ?_) q
 · replace b := b.step st20; refine ⟨_, _, _, _, _, _, _, _, _, _, _, _, _, _, _, _, b.cell0, b.cell 1 rfl, b.cell 2 rfl, b.cell 3 rfl, b.cell 4 rfl, b.cell 5 rfl, b.cell 6 rfl, b.cell 7 rfl, ?_⟩; replace b2 := b2.step (st3.then (st4.then (st5.then (st6.then (st7.then (st8.then (st12.then (st13.then (st14.then (st18.then (st19.then st20))))))))))); refine ⟨b2.mayF rfl, NewH.mk fun H_20 e10 => ?_⟩; obtain ⟨st24, b2⟩ := b2.wf8 rfl e10; refine ⟨_, _, _, _, _, _, _, _, _, _, _, _, _, _, _, _, b2.cell0, b2.cell 1 rfl, b2.cell 2 rfl, b2.cell 3 rfl, b2.cell 4 rfl, b2.cell 5 rfl, b2.cell 6 rfl, b2.cell 7 rfl, ?_⟩; replace f6 := f6.step (st12.then (st13.then (st14.then (st18.then (st19.then (st20.then st24)))))); obtain ⟨xσ17, st25, f6⟩ := SlO.freeze f6; replace hs := hs.trans (st.then (st2.then (st3.then (st4.then (st5.then (st6.then (st7.then (st8.then (st12.then (st13.then (st14.then (st18.then (st19.then (st20.then (st24.then st25))))))))))))))); replace f5 := f5.step (st5.then (st6.then (st7.then (st8.then (st12.then (st13.then (st14.then (st18.then (st19.then (st20.then (st24.then st25))))))))))); replace f9 := f9.step (st18.then (st19.then (st20.then (st24.then st25)))); replace f12 := f12.step (st24.then st25); exact hk (Zt xσ17) _ (hs.ext hσ) (hs.old hσ) (⟨w.Setup, x, t.2, t2.2, w.Round, t3.2⟩ : TWorld) (Yt xσ17 6) (hs.fresh hσ) (Yt xσ17 8) (hs.fresh hσ) _ rfl _ _ _ rfl f5 _ _ _ ((rfl : _ = _).trans hl.symm) f6 _ _ _ ((rfl : _ = _).trans hl2.symm) f9 _ _ _ ((rfl : _ = _).trans hl3.symm) f12 Yt.apart q
 replace b := b.step st20; refine ⟨_, _, _, b.cell 7 rfl, ?_⟩; refine ⟨_, _, _, b.cell 7 rfl, ?_⟩; obtain ⟨h05, hi10, q⟩ := q; obtain ⟨a5, ha5, hi9⟩ := f12.addr h05 ((rfl : _ = _).trans hl3.symm) hi10; refine ⟨a5, ha5, hi9.1, hi9.2, ?_⟩; obtain ⟨x10, hx4, q⟩ := q; obtain ⟨cs2, hr2, hc4⟩ := f12.ldN (k := 4) rfl ha5 h05 hx4; obtain ⟨A9, c9, rfl, f13⟩ := hr2; have hc5 := hc4 3 _ rfl; refine ⟨_, _, _, hc5.val, ?_⟩; refine q (Zt xσ14) H_17 _ _ _ rfl f13 _ (fun Z8 H_18 hE7 hO7 x11 Y7 hY7 A10 n7 c10 hn11 f14 q => ?_); obtain ⟨xσ15, st21, fz7, fy7⟩ := call1 hE7 hO7 xσ14 9 (fun _ h => h) hY7; replace f14 := f14.keep fz7 fy7; cases hn11; refine ⟨_, _, _, rfl, ?_⟩; replace b := b.step st21; refine ⟨(b.cell 7 rfl), ?_⟩; obtain ⟨h06, hi12, q⟩ := q; replace f12 := f12.step st21; obtain ⟨a6, ha6, hi11⟩ := f12.addr h06 ((rfl : _ = _).trans hl3.symm) hi12; refine ⟨a6, ha6, hi11.1, hi11.2, ?_⟩; obtain ⟨xσ16, st23, f14⟩ := SlO.freeze f14; obtain ⟨x12, hx5, q⟩ := q; replace f12 := f12.step st23; have w4 := fun v hv => SlO.setF (k := 4) (y := (⟨x12.Round, x12.From, x12.To, x11⟩ : TSent)) (v := v) (EF := (slL u64L)) (xv := x11) f12 rfl ha6 h06 hx5 3 (by decide) hv (fun cs hv hc => by obtain ⟨A_, c_, e_, h_⟩ := hv; cases e_; obtain ⟨A3_, c3_, e0_, h3_⟩ := hc; cases e0_; exact ⟨A_, c_, rfl, h_⟩); refine ⟨(w4 _ (slL_rep rfl f14)).1, NewH.mk fun H_19 e9 => ?_⟩; obtain ⟨st22, f12⟩ := (w4 _ (slL_rep rfl f14)).2 H_19 e9; replace sl13 := sl13.trans (st21.then (st23.then st22)); exact hnext3 (IntKind.i64.wrap (t3.1 + 1), (List.set t3.2 (Int.toNat t3.1) (⟨x12.Round, x12.From, x12.To, x11⟩ : TSent))) _ _ ⟨_, sl13, rfl, (set_back ((rfl : _ = _).trans hl3.symm) (set_len ((rfl : _ = _).trans hl3.symm)) hl3), f12⟩ q
end Go.Proofs.Ytpfpnkaeoedeiaa.Sh
end
section
set_option linter.unusedVariables false
namespace Go.Proofs.Ytpfpnkaeoedeiaa.Sp
open Go.Sx Go.Proofs.Ytpfpnkaeoedeiaa.Sh Go.Lf
theorem slices_Clone_LLuint64Luint64_c {xs : List ((List Nat))} (hb : xs.length * 24 ≤ 140737488355328) {K : List ((List Nat)) → Prop} (k : K xs) : slices_Clone_LLuint64Luint64.C xs K := by
 intro Z H A n c hn hF KK hk
 subst hn
 apply slices_Clone_LLuint64Luint64.ok
 unfold slices_Clone_LLuint64Luint64.W
 cases A with
 | none =>
   have hx := hF.none_nil rfl
   subst hx
   exact hk Z H (Ext.refl _) (fun _ h _ => h) _ (fun _ => False) (fun _ h => h.elim) _ _ _ rfl (SlO.nil _ _ _ _ _) k
 | some a =>
   refine cf rfl ?_
   obtain ⟨σ, hz, hσ⟩ := tags Z
   refine NewH.mk fun H1 e1 => ?_
   obtain ⟨σ1, st1, f1⟩ := SlO.lit (E := (slL u64L)) σ 1 (xs := []) (l := []) e1 rfl .nil (show (0 : Nat) ≤ 17592186044416 by decide)
   have hF1 := (hF.wide hz).step st1
   have hs := (Stp.refl [1] σ H).trans st1
   have hl : xs.length ≤ 17592186044416 := by omega
   refine SlO.appF f1 hF1 rfl rfl ?_ ?_ rfl rfl (fun A2 c2 H2 σ2 st2 f2 => ?_)
   · simp; omega
   · simp; omega
   have hs := hs.trans st2
   exact hk (Zt σ2) _ (hs.ext hσ) (hs.old hσ) _ (Yt σ2 1) (hs.fresh hσ) _ _ _ rfl f2 k
theorem slices_Clone_intint_c {xs : List Int} (hb : xs.length * 8 ≤ 140737488355328) {K : List Int → Prop} (k : K xs) : slices_Clone_intint.C xs K := by
 intro Z H A n c hn hF KK hk
 subst hn
 apply slices_Clone_intint.ok
 unfold slices_Clone_intint.W
 cases A with
 | none =>
   have hx := hF.none_nil rfl
   subst hx
   exact hk Z H (Ext.refl _) (fun _ h _ => h) _ (fun _ => False) (fun _ h => h.elim) _ _ _ rfl (SlO.nil _ _ _ _ _) k
 | some a =>
   refine cf rfl ?_
   obtain ⟨σ, hz, hσ⟩ := tags Z
   refine NewH.mk fun H1 e1 => ?_
   obtain ⟨σ1, st1, f1⟩ := SlO.lit (E := i64L) σ 1 (xs := []) (l := []) e1 rfl .nil (show (0 : Nat) ≤ 17592186044416 by decide)
   have hF1 := (hF.wide hz).step st1
   have hs := (Stp.refl [1] σ H).trans st1
   have hl : xs.length ≤ 17592186044416 := by omega
   refine SlO.appF f1 hF1 rfl rfl ?_ ?_ rfl rfl (fun A2 c2 H2 σ2 st2 f2 => ?_)
   · simp; omega
   · simp; omega
   have hs := hs.trans st2
   exact hk (Zt σ2) _ (hs.ext hσ) (hs.old hσ) _ (Yt σ2 1) (hs.fresh hσ) _ _ _ rfl f2 k
theorem slices_Clone_juntoapiActjuntoapiAct_c {xs : List TAct} (hb : xs.length * 56 ≤ 140737488355328) {K : List TAct → Prop} (k : K xs) : slices_Clone_juntoapiActjuntoapiAct.C xs K := by
 intro Z H A n c hn hF KK hk
 subst hn
 apply slices_Clone_juntoapiActjuntoapiAct.ok
 unfold slices_Clone_juntoapiActjuntoapiAct.W
 cases A with
 | none =>
   have hx := hF.none_nil rfl
   subst hx
   exact hk Z H (Ext.refl _) (fun _ h _ => h) _ (fun _ => False) (fun _ h => h.elim) _ _ _ rfl (SlO.nil _ _ _ _ _) k
 | some a =>
   refine cf rfl ?_
   obtain ⟨σ, hz, hσ⟩ := tags Z
   refine NewH.mk fun H1 e1 => ?_
   obtain ⟨σ1, st1, f1⟩ := SlO.lit (E := TAct.L) σ 1 (xs := []) (l := []) e1 rfl .nil (show (0 : Nat) ≤ 17592186044416 by decide)
   have hF1 := (hF.wide hz).step st1
   have hs := (Stp.refl [1] σ H).trans st1
   have hl : xs.length ≤ 17592186044416 := by omega
   refine SlO.appF f1 hF1 rfl rfl ?_ ?_ rfl rfl (fun A2 c2 H2 σ2 st2 f2 => ?_)
   · simp; omega
   · simp; omega
   have hs := hs.trans st2
   exact hk (Zt σ2) _ (hs.ext hσ) (hs.old hσ) _ (Yt σ2 1) (hs.fresh hσ) _ _ _ rfl f2 k
theorem slices_Clone_juntoapiSentjuntoapiSent_c {xs : List TSent} (hb : xs.length * 48 ≤ 140737488355328) {K : List TSent → Prop} (k : K xs) : slices_Clone_juntoapiSentjuntoapiSent.C xs K := by
 intro Z H A n c hn hF KK hk
 subst hn
 apply slices_Clone_juntoapiSentjuntoapiSent.ok
 unfold slices_Clone_juntoapiSentjuntoapiSent.W
 cases A with
 | none =>
   have hx := hF.none_nil rfl
   subst hx
   exact hk Z H (Ext.refl _) (fun _ h _ => h) _ (fun _ => False) (fun _ h => h.elim) _ _ _ rfl (SlO.nil _ _ _ _ _) k
 | some a =>
   refine cf rfl ?_
   obtain ⟨σ, hz, hσ⟩ := tags Z
   refine NewH.mk fun H1 e1 => ?_
   obtain ⟨σ1, st1, f1⟩ := SlO.lit (E := TSent.L) σ 1 (xs := []) (l := []) e1 rfl .nil (show (0 : Nat) ≤ 17592186044416 by decide)
   have hF1 := (hF.wide hz).step st1
   have hs := (Stp.refl [1] σ H).trans st1
   have hl : xs.length ≤ 17592186044416 := by omega
   refine SlO.appF f1 hF1 rfl rfl ?_ ?_ rfl rfl (fun A2 c2 H2 σ2 st2 f2 => ?_)
   · simp; omega
   · simp; omega
   have hs := hs.trans st2
   exact hk (Zt σ2) _ (hs.ext hσ) (hs.old hσ) _ (Yt σ2 1) (hs.fresh hσ) _ _ _ rfl f2 k
end Go.Proofs.Ytpfpnkaeoedeiaa.Sp
end
section
set_option linter.unusedVariables false
namespace Go.Lf
open Go.Sx
theorem cnd {p : Prop} [Decidable p] {A B : Prop} (h1 : p → A) (h2 : ¬ p → B) : cond (decide p) A B := by
 by_cases h : p
 · exact ctd h (h1 h)
 · exact cfd h (h2 h)
theorem cnB {b : Bool} {A B : Prop} (h1 : b = true → A) (h2 : b = false → B) : cond b A B := by
 cases b
 · exact h2 rfl
 · exact h1 rfl
theorem cnE {a b : Int} {A B : Prop} (h1 : a = b → A) (h2 : a ≠ b → B) : cond (a == b) A B := by
 by_cases h : a = b
 · exact ct (beq_t h) (h1 h)
 · exact cf (beq_f h) (h2 h)
theorem cnN {a b : Int} {A B : Prop} (h1 : a ≠ b → A) (h2 : a = b → B) : cond (a != b) A B := by
 by_cases h : a = b
 · exact cf (bne_f h) (h2 h)
 · exact ct (bne_t h) (h1 h)
theorem MakeOk.big {b : Nat} {l : Int} (h0 : 0 ≤ l) (h : l ≤ 4000000) (hb : b ≤ 1000 := by decide) : MakeOk b l := by
 refine ⟨h0, ?_, by omega⟩
 have : l * (b : Int) ≤ 4000000 * 1000 := Int.mul_le_mul h (by omega) (by omega) (by omega)
 omega
theorem AppOk.big {b n : Nat} (h : n ≤ 4000000) (hb : b ≤ 1000 := by decide) : AppOk b n := by
 refine ⟨?_, by omega⟩
 have : n * b ≤ 4000000 * 1000 := Nat.mul_le_mul h hb
 omega
theorem mul_big {n b : Nat} (h : n ≤ 4000000) (hb : b ≤ 1000 := by decide) : n * b ≤ 140737488355328 := by
 have : n * b ≤ 4000000 * 1000 := Nat.mul_le_mul h hb
 omega
theorem LoopQ.rangeL {S : Type} {s0 : S} {step : S × Int → (S × Int → Prop) → Prop} (N : Nat) (Inv : Nat → S → Prop) (h0 : Inv 0 s0) (hN : N < 4611686018427387904)
   (hs : ∀ (k : Nat) (s : S) (next : S × Int → Prop), k < N → Inv k s → (∀ s', Inv (k + 1) s' → next (s', IntKind.i64.wrap ((k : Int) + 1))) → step (s, (k : Int)) next)
   (he : ∀ (s : S) (next : S × Int → Prop), Inv N s → step (s, (N : Int)) next) : LoopQ (s0, (0 : Int)) step := by
 refine LoopQ.upto N (fun k t => t.2 = k ∧ Inv k t.1) ⟨rfl, h0⟩ ?_
 rintro k ⟨s, t⟩ next hk ⟨rfl, hI⟩ hn
 by_cases h : k < N
 · exact hs k s next h hI fun s' hI' => hn h _ ⟨wsucc (by omega), hI'⟩
 · obtain rfl : k = N := by omega
   exact he s next hI
theorem take_snoc {α : Type} {l : List α} {k : Nat} {x : α} (h : l[k]? = some x) : l.take (k + 1) = l.take k ++ [x] := by
 rw [List.take_add_one, h]; rfl
theorem drop_cons {α : Type} {l : List α} {k : Nat} {x : α} (h : l[k]? = some x) : l.drop k = x :: l.drop (k + 1) := by
 have hk := (List.getElem?_eq_some_iff.1 h).1
 rw [List.drop_eq_getElem_cons hk]
 congr 1
 exact (List.getElem?_eq_some_iff.1 h).2
end Go.Lf
namespace Go.Proofs.Ytpfpnkaeoedeiaa.Pl
open Go.Sx Go.Lf Go.Proofs.Ytpfpnkaeoedeiaa.Sh Go.Proofs.Ytpfpnkaeoedeiaa.Sp
def OkS (s : TSetup) : Prop := isP s.P ∧ 1 ≤ s.N ∧ s.N ≤ 13 ∧ 0 ≤ s.T_ ∧ 4 * s.T_ + 1 ≤ s.N ∧ s.N < (s.P : Int)
open Classical in
noncomputable def setC (s : TSetup) : Int := if OkS s then 0 else 2
theorem share_Setup_c {s : TSetup} {K : Int → Prop} (k : K (setC s)) : share_Setup.C s K := by
 apply share_Setup.q
 unfold share_Setup.Q
 have bad : ¬ OkS s → K 2 := fun h => by rw [setC, if_neg h] at k; exact k
 refine field_Is_c ?_
 by_cases hp : ¬ isP s.P
 · exact ct (by rw [prm_f hp]; rfl) (bad fun h => hp h.1)
 rw [Classical.not_not] at hp
 refine cf (by rw [prm_t hp]; rfl) ?_
 refine cnd (fun h => bad fun ⟨_, a, b, c, d, e⟩ => by omega) (fun h1 => ?_)
 refine cnd (fun h => bad fun ⟨_, a, b, c, d, e⟩ => by omega) (fun h2 => ?_)
 refine cnd (fun h => bad fun ⟨_, a, b, c, d, e⟩ => by omega) (fun h3 => ?_)
 refine cnd (fun h => bad fun ⟨_, a, b, c, d, e⟩ => by omega) (fun h4 => ?_)
 rw [wi64 (x := 4 * s.T_) (by omega) (by omega), wi64 (by omega) (by omega), wu64 (by omega) (by omega)]
 refine cnd (fun h => bad fun ⟨_, a, b, c, d, e⟩ => by omega) (fun h5 => ?_)
 refine cnd (fun h => bad fun ⟨_, a, b, c, d, e⟩ => by omega) (fun h6 => ?_)
 have : OkS s := ⟨hp, by omega, by omega, by omega, by omega, by omega⟩
 rw [setC, if_pos this] at k; exact k
def risA (n : Int) : Int → List Int → Bool
 | _, [] => true
 | a, x :: l => decide (a < x) && decide (x ≤ n) && risA n x l
theorem ris_loop {n : Int} {l : List Int} (hl : l.length < 4611686018427387904) {A B : Prop} (kt : risA n 0 l = true → A) (kf : risA n 0 l = false → B) :
   LoopQ (τ := Int × Int) (0, 0) fun t nextQ =>
     cond (decide (t.2 < ((l.length : Nat) : Int))) (0 ≤ t.2 ∧ ∃ x : Int, l[Int.toNat t.2]? = some x ∧ cond (decide (x ≤ t.1)) B (cond (decide (x > n)) B (nextQ (x, IntKind.i64.wrap (t.2 + 1))))) A := by
 refine LoopQ.rangeL l.length (fun k s => risA n s (l.drop k) = risA n 0 l) rfl hl ?_ ?_
 · intro k s next hk hI hn
   obtain ⟨x, hx⟩ := get_some hk
   refine ctd (by dsimp only; omega) ⟨by dsimp only; omega, x, hx, ?_⟩
   rw [drop_cons hx] at hI
   simp only [risA] at hI
   refine cnd (fun h => kf ?_) (fun h1 => cnd (fun h => kf ?_) (fun h2 => hn x ?_))
   · rw [← hI, decide_eq_false (show ¬ s < x by omega)]; rfl
   · rw [← hI, decide_eq_false (show ¬ x ≤ n by omega)]; simp
   · rw [← hI, decide_eq_true (show s < x by omega), decide_eq_true (show x ≤ n by omega)]; rfl
 · intro s next hI
   refine cfd (by dsimp only; omega) (kt ?_)
   rw [← hI, List.drop_of_length_le (Nat.le_refl _)]; rfl
open Classical in
noncomputable def corC (s : TSetup) (l : List Int) : Int := if OkS s ∧ (l.length : Int) ≤ s.T_ ∧ risA s.N 0 l = true then 0 else 2
theorem setC_cases (s : TSetup) : (OkS s ∧ setC s = 0) ∨ (¬ OkS s ∧ setC s = 2) := by
 unfold setC
 by_cases h : OkS s
 · exact .inl ⟨h, if_pos h⟩
 · exact .inr ⟨h, if_neg h⟩
theorem share_Corrupted_c {s : TSetup} {l : List Int} (hl : l.length < 4611686018427387904) {K : Int → Prop} (k : K (corC s l)) : share_Corrupted.C s l K := by
 refine share_Corrupted.q (share_Setup_c ?_)
 have bad : ¬ (OkS s ∧ (l.length : Int) ≤ s.T_ ∧ risA s.N 0 l = true) → K 2 := fun h => by rw [corC, if_neg h] at k; exact k
 rcases setC_cases s with ⟨h, e⟩ | ⟨h, e⟩
 · rw [e]
   refine cf rfl (cnd (fun h2 => bad fun hh => by omega) (fun h2 => ris_loop hl (fun h3 => ?_) (fun h3 => bad fun hh => by rw [h3] at hh; simp at hh)))
   rw [corC, if_pos ⟨h, by omega, h3⟩] at k; exact k
 · rw [e]
   exact ct rfl (bad fun hh => h hh.1)
theorem slices_Index_intint_c {s : List Int} {v : Int} (hl : s.length < 4611686018427387904) {K : Int → Prop} (k1 : ∀ i : Nat, s[i]? = some v → K i) (k0 : v ∉ s → K (-1)) : slices_Index_intint.C s v K := by
 refine slices_Index_intint.q ?_
 refine LoopQ.range s.length (fun k => ∀ j, j < k → s[j]? ≠ some v) (fun j hj => by omega) hl ?_ ?_
 · intro i next hk hI hn
   obtain ⟨x, hx⟩ := get_some hk
   refine ctd (by omega) ⟨by omega, x, hx, cnE (fun h => k1 i (by rw [hx, h])) (fun h => hn fun j hj => ?_)⟩
   rcases Nat.lt_or_ge j i with h' | h'
   · exact hI j h'
   · obtain rfl : j = i := by omega
     rw [hx]; exact fun e => h (by cases e; rfl)
 · intro next hI
   refine cfd (by omega) (k0 fun hm => ?_)
   obtain ⟨j, hj⟩ := List.mem_iff_getElem?.1 hm
   exact hI j (lt_get hj) hj
theorem slices_Contains_intint_c {s : List Int} {v : Int} (hl : s.length < 4611686018427387904) {K : Bool → Prop} (k : K (decide (v ∈ s))) : slices_Contains_intint.C s v K := by
 refine slices_Contains_intint.q (slices_Index_intint_c hl (fun i hi => ?_) (fun h => ?_))
 · rw [decide_eq_true (mem_get hi)] at k
   rw [decide_eq_true (show (i : Int) ≥ 0 by omega)]; exact k
 · rw [decide_eq_false h] at k; exact k
def badAct (n : Int) (c : List Int) (a : TAct) : Prop := a.From ∉ c ∨ a.To < 0 ∨ a.To > n ∨ a.To = a.From ∨ a.Round < 1
def key3 (a : TAct) : Int × Int × Int := (a.Round, a.From, a.To)
open Classical in
noncomputable def actC (n : Int) (c : List Int) (seen : List TAct) (a : TAct) : Int := if badAct n c a then 2 else if a.Data.length > 65536 then 3 else if ∃ b ∈ seen, key3 b = key3 a then 6 else 0
noncomputable def actsC (n : Int) (c : List Int) : List TAct → List TAct → Int
 | _, [] => 0
 | seen, a :: l => if actC n c seen a = 0 then actsC n c (seen ++ [a]) l else actC n c seen a
theorem net_acts_c {s : TSetup} {c : List Int} {l : List TAct} (hc : c.length < 4611686018427387904) {K : Int → Prop} (k : K (if l.length > 65536 then 3 else actsC s.N c [] l)) : net_acts.C s c l K := by
 refine net_acts.q ?_
 refine cnd (fun h => ?_) (fun h => ?_)
 · rw [if_pos (by omega)] at k; exact k
 rw [if_neg (by omega)] at k
 refine LoopQ.rangeS l.length (fun k m => (∀ q, mgetD m q false = decide (∃ b ∈ l.take k, key3 b = q)) ∧ actsC s.N c (l.take k) (l.drop k) = actsC s.N c [] l) ⟨fun q => by simp [mgetD], rfl⟩ (by omega) ?_ ?_
 · rintro j m next hj ⟨hm, hI⟩ hn
   obtain ⟨a, ha⟩ := get_some hj
   refine ctd (by dsimp only; omega) ⟨by dsimp only; omega, a, ha, slices_Contains_intint_c hc ?_⟩
   rw [drop_cons ha] at hI
   simp only [actsC] at hI
   have out : ∀ e : Int, actC s.N c (l.take j) a = e → e ≠ 0 → K e := fun e he h0 => by
     rw [← hI, if_neg (by rw [he]; exact h0), he] at k; exact k
   have bad : badAct s.N c a → K 2 := fun hb => out 2 (by rw [actC, if_pos hb]) (by decide)
   refine cnB (fun h1 => bad (.inl (by simpa using h1))) (fun h1 => ?_)
   refine cnd (fun h2 => bad (.inr (.inl h2))) (fun h2 => cnd (fun h3 => bad (.inr (.inr (.inl h3)))) (fun h3 => cnE (fun h4 => bad (.inr (.inr (.inr (.inl h4))))) (fun h4 => cnd (fun h5 => bad (.inr (.inr (.inr (.inr h5))))) (fun h5 => ?_))))
   have hnb : ¬ badAct s.N c a := by
     rintro (hh | hh | hh | hh | hh)
     · simp at h1; exact hh h1
     · exact h2 hh
     · exact h3 hh
     · exact h4 hh
     · exact h5 hh
   refine cnd (fun h6 => out 3 (by rw [actC, if_neg hnb, if_pos (by omega)]) (by decide)) (fun h6 => ⟨_, rfl, ?_⟩)
   rw [hm]
   refine cnB (fun h7 => out 6 (by rw [actC, if_neg hnb, if_neg (by omega), if_pos (by simpa [key3] using h7)]) (by decide)) (fun h7 => hn _ ⟨fun q => ?_, ?_⟩)
   · rw [mgetD_set, hm, take_snoc ha]
     by_cases hq : key3 a = q
     · rw [if_pos (show (a.Round, a.From, a.To) = q from hq)]; symm; simp [hq]
     · rw [if_neg (show ¬ (a.Round, a.From, a.To) = q from hq)]; simp [hq]
   · have : actC s.N c (l.take j) a = 0 := by rw [actC, if_neg hnb, if_neg (by omega), if_neg (by simpa [key3] using h7)]
     rw [if_pos this, ← take_snoc ha] at hI
     exact hI
 · rintro m next ⟨hm, hI⟩
   refine cfd (by dsimp only; omega) ?_
   rw [← hI, List.drop_of_length_le (Nat.le_refl _)] at k
   exact k
theorem actsC_ok {n : Int} {c : List Int} : ∀ (l seen : List TAct), (seen.map key3).Nodup → actsC n c seen l = 0 → ((seen ++ l).map key3).Nodup ∧ ∀ a ∈ l, ¬ badAct n c a ∧ a.Data.length ≤ 65536
 | [], seen, hs, _ => ⟨by simpa using hs, fun a h => by cases h⟩
 | a :: l, seen, hs, h => by
   simp only [actsC] at h
   by_cases h0 : actC n c seen a = 0
   · rw [if_pos h0] at h
     have hb : ¬ badAct n c a := fun hb => by rw [actC, if_pos hb] at h0; simp at h0
     have hn : ¬ ∃ b ∈ seen, key3 b = key3 a := fun hn => by
       rw [actC, if_neg hb] at h0
       split at h0
       · simp at h0
       · first | simp at h0 | (rw [if_pos hn] at h0; simp at h0)
     have hd : a.Data.length ≤ 65536 := by
       rw [actC, if_neg hb] at h0
       split at h0
       · simp at h0
       · omega
     have hs2 : ((seen ++ [a]).map key3).Nodup := by
       rw [List.map_append, List.nodup_append]
       refine ⟨hs, by simp, ?_⟩
       intro x hx y hy e
       simp at hy
       obtain ⟨b, hb1, hb2⟩ := List.mem_map.1 hx
       exact hn ⟨b, hb1, by rw [hb2, e, hy]⟩
     obtain ⟨h1, h2⟩ := actsC_ok l _ hs2 h
     refine ⟨by simpa using h1, fun b hbm => ?_⟩
     rcases List.mem_cons.1 hbm with rfl | hbm
     · exact ⟨hb, hd⟩
     · exact h2 b hbm
   · rw [if_neg h0] at h; exact absurd h h0
structure WOk (w : TWorld) : Prop where
 set : OkS w.Setup
 cor : (w.Corrupted.length : Int) ≤ w.Setup.T_
 ris : risA w.Setup.N 0 w.Corrupted = true
 tap : (w.Tapes.length : Int) = w.Setup.N
 r0 : 0 ≤ w.Round
 r1 : w.Round ≤ 1048576
 act : ∀ a ∈ w.Acts, ¬ badAct w.Setup.N w.Corrupted a ∧ a.Data.length ≤ 65536
 key : (w.Acts.map key3).Nodup
open Classical in
noncomputable def checkW (w : TWorld) : Int := if corC w.Setup w.Corrupted = 0 then (if (w.Tapes.length : Int) ≠ w.Setup.N ∨ w.Round < 0 ∨ w.Round > 1048576 then 2 else if w.Acts.length > 65536 then 3 else actsC w.Setup.N w.Corrupted [] w.Acts) else 2
theorem corC_cases (s : TSetup) (l : List Int) : ((OkS s ∧ (l.length : Int) ≤ s.T_ ∧ risA s.N 0 l = true) ∧ corC s l = 0) ∨ corC s l = 2 := by
 unfold corC
 by_cases h : OkS s ∧ (l.length : Int) ≤ s.T_ ∧ risA s.N 0 l = true
 · exact .inl ⟨h, if_pos h⟩
 · exact .inr (if_neg h)
theorem net_Check_c {w : TWorld} (hc : w.Corrupted.length < 4611686018427387904) {K : Int → Prop} (k : K (checkW w)) : net_Check.C w K := by
 refine net_Check.q (share_Corrupted_c hc ?_)
 unfold checkW at k
 rcases corC_cases w.Setup w.Corrupted with ⟨h, e⟩ | e
 · rw [e]
   rw [if_pos e] at k
   refine cf rfl (cnN (fun h1 => ?_) (fun h1 => cnd (fun h2 => ?_) (fun h2 => cnd (fun h3 => ?_) (fun h3 => net_acts_c hc ?_))))
   · rw [if_pos (.inl h1)] at k; exact k
   · rw [if_pos (.inr (.inl h2))] at k; exact k
   · rw [if_pos (.inr (.inr h3))] at k; exact k
   · rw [if_neg (by omega)] at k; exact k
 · rw [e]
   rw [if_neg (by rw [e]; decide)] at k
   exact ct rfl k
theorem checkW_ok {w : TWorld} (h : checkW w = 0) : WOk w := by
 unfold checkW at h
 rcases corC_cases w.Setup w.Corrupted with ⟨⟨a, b, c⟩, e⟩ | e
 · rw [if_pos e] at h
   by_cases h1 : (w.Tapes.length : Int) ≠ w.Setup.N ∨ w.Round < 0 ∨ w.Round > 1048576
   · rw [if_pos h1] at h; simp at h
   rw [if_neg h1] at h
   split at h
   · simp at h
   obtain ⟨h2, h3⟩ := actsC_ok w.Acts [] (by simp) h
   exact ⟨a, b, c, by omega, by omega, by omega, h3, by simpa using h2⟩
 · rw [if_neg (by rw [e]; decide)] at h; simp at h
theorem net_Room_c {w : TWorld} {n : Int} (h0 : 0 ≤ w.Round) (h1 : w.Round ≤ 1048576) (hn : 0 ≤ n) (hn2 : n ≤ 1000000) {K : Int → Prop} (k8 : w.Round + n > 1048576 → K 8) (k0 : w.Round + n ≤ 1048576 → K 0) : net_Room.C w n K := by
 refine net_Room.q ?_
 unfold net_Room.Q
 rw [wi64 (by omega) (by omega)]
 exact cnd (fun h => k8 h) (fun h => k0 (by omega))
theorem set_same {α : Type} {l : List α} {i : Nat} {x : α} (h : l[i]? = some x) : l.set i x = l := by
 apply List.ext_getElem?
 intro j
 rw [List.getElem?_set]
 by_cases hj : i = j
 · subst hj; rw [if_pos rfl, if_pos (lt_get h), h]
 · rw [if_neg hj]
structure SmW (w : TWorld) : Prop where
 cor : w.Corrupted.length ≤ 4000000
 act : w.Acts.length ≤ 2000000
 tap : w.Tapes.length ≤ 4000000
 snt : w.Sent.length ≤ 2000000
theorem net_Clone_c {w : TWorld} (h : SmW w) {K : TWorld → Prop} (k : K w) : net_Clone.C w K := by
 refine net_Clone.q (slices_Clone_intint_c (mul_big h.cor) (slices_Clone_juntoapiActjuntoapiAct_c (mul_big (by have := h.act; omega)) ?_))
 refine LoopQ.rangeS w.Acts.length (fun _ s => s = w.Acts) rfl (by have := h.act; omega) ?_ ?_
 · rintro j _ next hj rfl hn
   obtain ⟨a, ha⟩ := get_some hj
   refine ctd (by dsimp only; omega) ⟨by dsimp only; omega, by dsimp only; omega, a, ha, slices_Clone_c ⟨by dsimp only; omega, by dsimp only; omega, a, ha, hn _ ?_⟩⟩
   exact set_same ha
 rintro _ next rfl
 refine cfd (by dsimp only; omega) (slices_Clone_LLuint64Luint64_c (mul_big h.tap) ?_)
 refine LoopQ.rangeS w.Tapes.length (fun _ s => s = w.Tapes) rfl (by have := h.tap; omega) ?_ ?_
 · rintro j _ next hj rfl hn
   obtain ⟨a, ha⟩ := get_some hj
   refine ctd (by dsimp only; omega) ⟨by dsimp only; omega, by dsimp only; omega, a, ha, slices_Clone_c ⟨by dsimp only; omega, by dsimp only; omega, hn _ ?_⟩⟩
   exact set_same ha
 rintro _ next rfl
 refine cfd (by dsimp only; omega) (slices_Clone_juntoapiSentjuntoapiSent_c (mul_big (by have := h.snt; omega)) ?_)
 refine LoopQ.rangeS w.Sent.length (fun _ s => s = w.Sent) rfl (by have := h.snt; omega) ?_ ?_
 · rintro j _ next hj rfl hn
   obtain ⟨a, ha⟩ := get_some hj
   refine ctd (by dsimp only; omega) ⟨by dsimp only; omega, by dsimp only; omega, a, ha, slices_Clone_c ⟨by dsimp only; omega, by dsimp only; omega, a, ha, hn _ ?_⟩⟩
   exact set_same ha
 rintro _ next rfl
 exact cfd (by dsimp only; omega) k
theorem net_Blank_c {n : Nat} (hn : n ≤ 1000) {K : List (List (List Nat)) → List (List Nat) → Prop} (k : K (List.replicate n (List.replicate n [])) (List.replicate n [])) : net_Blank.C n K := by
 refine net_Blank.q ⟨MakeOk.of (by omega) (by omega), ?_⟩
 rw [toNat_c]
 refine LoopQ.rangeS n (fun k s => s = tab n fun i => if i < k then List.replicate n [] else []) ?_ (by omega) ?_ ?_
 · rw [tab_rep]; exact tab_ext fun i _ => by simp
 · rintro j _ next hj rfl hnx
   refine ctd (by dsimp only; omega) ⟨MakeOk.of (by omega) (by omega), by dsimp only; omega, by dsimp only; omega, hnx _ ?_⟩
   dsimp only
   rw [toNat_c, tab_set]
   exact tab_ext fun i _ => by
     by_cases h1 : i = j
     · subst h1; rw [if_pos rfl, if_pos (by omega)]
     · by_cases h2 : i < j
       · rw [if_neg h1, if_pos h2, if_pos (by omega)]
       · rw [if_neg h1, if_neg h2, if_neg (by omega)]
 · rintro _ next rfl
   refine cfd (by dsimp only; omega) ⟨MakeOk.of (by omega) (by omega), ?_⟩
   have : (tab n fun i => if i < n then List.replicate n ([] : List Nat) else []) = List.replicate n (List.replicate n []) := by
     rw [tab_rep n (List.replicate n ([] : List Nat))]; exact tab_ext fun i hi => by rw [if_pos hi]
   dsimp only
   rw [this]; exact k
end Go.Proofs.Ytpfpnkaeoedeiaa.Pl
end
section
set_option linter.unusedVariables false
namespace Go.Proofs.Ytpfpnkaeoedeiaa.Pl
open Go.Sx Go.Lf Go.Proofs.Ytpfpnkaeoedeiaa.Sh Go.Proofs.Ytpfpnkaeoedeiaa.Sp
def flat {α : Type} (n : Nat) (g : Nat → List α) : List α := ((List.range n).map g).flatten
theorem flat_succ {α : Type} (n : Nat) (g : Nat → List α) : flat (n + 1) g = flat n g ++ g n := by simp [flat, List.range_succ]
theorem flat_le {α : Type} {n m : Nat} {g : Nat → List α} (h : ∀ i, (g i).length ≤ m) : (flat n g).length ≤ n * m := by
 induction n with
 | zero => simp [flat]
 | succ n ih => rw [flat_succ, List.length_append, Nat.add_mul, Nat.one_mul]; have := h n; omega
theorem flat_ext {α : Type} {n : Nat} {g h : Nat → List α} (e : ∀ i, i < n → g i = h i) : flat n g = flat n h := by
 unfold flat; congr 1
 exact List.map_congr_left fun i hi => e i (List.mem_range.1 hi)
theorem map_inj {α β : Type} {f : α → β} : ∀ {l : List α}, (l.map f).Nodup → ∀ {a b : α}, a ∈ l → b ∈ l → f a = f b → a = b
 | x :: l, h, a, b, ha, hb, e => by
   simp only [List.map_cons, List.nodup_cons] at h
   rcases List.mem_cons.1 ha with ha1 | ha2
   · rcases List.mem_cons.1 hb with hb1 | hb2
     · rw [ha1, hb1]
     · exact absurd (List.mem_map.2 ⟨b, hb2, by rw [← e, ha1]⟩) h.1
   · rcases List.mem_cons.1 hb with hb1 | hb2
     · exact absurd (List.mem_map.2 ⟨a, ha2, by rw [e, hb1]⟩) h.1
     · exact map_inj h.2 ha2 hb2 e
def hasAct (l : List TAct) (r f t : Int) : Option TAct := l.find? fun a => decide (key3 a = (r, f, t))
theorem hasAct_some {l : List TAct} {r f t : Int} {a : TAct} (h : hasAct l r f t = some a) : a ∈ l ∧ key3 a = (r, f, t) :=
 ⟨List.mem_of_find?_eq_some h, by simpa using List.find?_some h⟩
theorem hasAct_none {l : List TAct} {r f t : Int} (h : hasAct l r f t = none) : ∀ a ∈ l, key3 a ≠ (r, f, t) := fun a ha => by
 simpa using List.find?_eq_none.1 h a ha
def actOf (l : List TAct) (r f t : Int) (d : List Nat) : List Nat := match hasAct l r f t with
 | some a => if a.Silent then [] else a.Data
 | none => d
def one (r f t : Int) (d : List Nat) : List TSent := if f = t ∨ d = [] then [] else [⟨r, f, t, d⟩]
theorem one_le (r f t : Int) (d : List Nat) : (one r f t d).length ≤ 1 := by unfold one; split <;> simp
def withSent (w : TWorld) (r : Int) (s : List TSent) : TWorld := ⟨w.Setup, w.Corrupted, w.Acts, w.Tapes, r, s⟩
def row (F : List (List (List Nat))) (i : Nat) : List (List Nat) := (F[i]?).getD []
def pay (F : List (List Nat)) (i : Nat) : List Nat := (F[i]?).getD []
theorem pay_get {F : List (List Nat)} {i : Nat} {x : List Nat} (h : F[i]? = some x) : pay F i = x := by unfold pay; rw [h]; rfl
theorem row_get {F : List (List (List Nat))} {i : Nat} {x : List (List Nat)} (h : F[i]? = some x) : row F i = x := by unfold row; rw [h]; rfl
def heardF (w : TWorld) (said : List (List Nat)) (i : Nat) : List Nat := actOf w.Acts (w.Round + 1) ((i : Int) + 1) 0 (pay said i)
def cameF (w : TWorld) (priv : List (List (List Nat))) (a b : Nat) : List Nat := actOf w.Acts (w.Round + 1) ((b : Int) + 1) ((a : Int) + 1) (pay (row priv b) a)
def sentRow (w : TWorld) (priv : List (List (List Nat))) (said : List (List Nat)) (b j : Nat) : List TSent :=
 one (w.Round + 1) ((b : Int) + 1) 0 (heardF w said b) ++ flat j fun a => one (w.Round + 1) ((b : Int) + 1) ((a : Int) + 1) (cameF w priv a b)
def sentF (w : TWorld) (priv : List (List (List Nat))) (said : List (List Nat)) (n k : Nat) : List TSent := flat k fun b => sentRow w priv said b n
def nextW (w : TWorld) (priv : List (List (List Nat))) (said : List (List Nat)) : TWorld :=
 withSent w (w.Round + 1) (w.Sent ++ sentF w priv said w.Setup.N.toNat w.Setup.N.toNat)
def cames (w : TWorld) (priv : List (List (List Nat))) : List (List (List Nat)) := tab w.Setup.N.toNat fun a => tab w.Setup.N.toNat fun b => cameF w priv a b
def heards (w : TWorld) (said : List (List Nat)) : List (List Nat) := tab w.Setup.N.toNat fun b => heardF w said b
theorem sentRow_le (w : TWorld) (priv : List (List (List Nat))) (said : List (List Nat)) (b j : Nat) : (sentRow w priv said b j).length ≤ j + 1 := by
 unfold sentRow
 rw [List.length_append]
 have h1 := one_le (w.Round + 1) ((b : Int) + 1) 0 (heardF w said b)
 have h2 := flat_le (n := j) (m := 1) (g := fun a => one (w.Round + 1) ((b : Int) + 1) ((a : Int) + 1) (cameF w priv a b)) fun i => one_le _ _ _ _
 omega
theorem come_c {w' : TWorld} {acts : List TAct} {r f t : Int} {d : List Nat} {m : List ((Int × Int) × TAct)} {J : List Nat × TWorld → Prop}
   (hm : ∀ q, mhas m q = (hasAct acts r q.1 q.2).isSome ∧ ∀ a, hasAct acts r q.1 q.2 = some a → mgetD m q (⟨0, 0, 0, false, []⟩ : TAct) = a) (hr : w'.Round = r) (hs : w'.Sent.length ≤ 3000000)
   (k : J (actOf acts r f t d, withSent w' r (w'.Sent ++ one r f t (actOf acts r f t d)))) :
   JoinQ (fun (J_ : List Nat × TWorld → Prop) =>
   ∃ x4 : TAct, x4 = mgetD m (f, t) (⟨0, 0, 0, false, []⟩ : TAct) ∧ cond (mhas m (f, t)) (cond x4.Silent (cond (f != t) (cond (decide ((0 : Int) > 0)) (slices_Clone_uint64uint64.C ([]) (fun (x5 : (List Nat)) =>
 AppOk 48 (w'.Sent ++ ([(⟨w'.Round, f, t, x5⟩ : TSent)] : List TSent)).length ∧ slices_Clone_uint64uint64.C ([]) (fun (x6 : (List Nat)) =>
 J_ (x6, (⟨w'.Setup, w'.Corrupted, w'.Acts, w'.Tapes, w'.Round, (w'.Sent ++ ([(⟨w'.Round, f, t, x5⟩ : TSent)] : List TSent))⟩ : TWorld)))))
  (slices_Clone_uint64uint64.C ([]) (fun (x7 : (List Nat)) =>
 J_ (x7, w'))))
  (slices_Clone_uint64uint64.C ([]) (fun (x8 : (List Nat)) =>
 J_ (x8, w'))))
  (cond (f != t) (cond (decide (((x4.Data.length : Nat) : Int) > 0)) (slices_Clone_uint64uint64.C x4.Data (fun (x9 : (List Nat)) =>
 AppOk 48 (w'.Sent ++ ([(⟨w'.Round, f, t, x9⟩ : TSent)] : List TSent)).length ∧ slices_Clone_uint64uint64.C x4.Data (fun (x10 : (List Nat)) =>
 J_ (x10, (⟨w'.Setup, w'.Corrupted, w'.Acts, w'.Tapes, w'.Round, (w'.Sent ++ ([(⟨w'.Round, f, t, x9⟩ : TSent)] : List TSent))⟩ : TWorld)))))
  (slices_Clone_uint64uint64.C x4.Data (fun (x11 : (List Nat)) =>
 J_ (x11, w'))))
  (slices_Clone_uint64uint64.C x4.Data (fun (x12 : (List Nat)) =>
 J_ (x12, w')))))
  (cond (f != t) (cond (decide (((d.length : Nat) : Int) > 0)) (slices_Clone_uint64uint64.C d (fun (x13 : (List Nat)) =>
 AppOk 48 (w'.Sent ++ ([(⟨w'.Round, f, t, x13⟩ : TSent)] : List TSent)).length ∧ slices_Clone_uint64uint64.C d (fun (x14 : (List Nat)) =>
 J_ (x14, (⟨w'.Setup, w'.Corrupted, w'.Acts, w'.Tapes, w'.Round, (w'.Sent ++ ([(⟨w'.Round, f, t, x13⟩ : TSent)] : List TSent))⟩ : TWorld)))))
  (slices_Clone_uint64uint64.C d (fun (x15 : (List Nat)) =>
 J_ (x15, w'))))
  (slices_Clone_uint64uint64.C d (fun (x16 : (List Nat)) =>
 J_ (x16, w'))))) J := by
 subst hr
 unfold JoinQ
 have go : ∀ e : List Nat, actOf acts w'.Round f t d = e → cond (f != t) (cond (decide (((e.length : Nat) : Int) > 0)) (slices_Clone_uint64uint64.C e (fun (x9 : (List Nat)) =>
     AppOk 48 (w'.Sent ++ ([(⟨w'.Round, f, t, x9⟩ : TSent)] : List TSent)).length ∧ slices_Clone_uint64uint64.C e (fun (x10 : (List Nat)) =>
     J (x10, (⟨w'.Setup, w'.Corrupted, w'.Acts, w'.Tapes, w'.Round, (w'.Sent ++ ([(⟨w'.Round, f, t, x9⟩ : TSent)] : List TSent))⟩ : TWorld)))))
      (slices_Clone_uint64uint64.C e (fun (x11 : (List Nat)) => J (x11, w')))) (slices_Clone_uint64uint64.C e (fun (x12 : (List Nat)) => J (x12, w'))) := fun e he => by
   rw [he] at k
   have same : (f = t ∨ e = []) → J (e, w') := fun h => by
     rw [one, if_pos h, List.append_nil] at k; exact k
   refine cnN (fun h => cnd (fun h1 => slices_Clone_c ⟨AppOk.big (by simp; omega), slices_Clone_c ?_⟩) (fun h1 => slices_Clone_c (same (.inr (List.eq_nil_of_length_eq_zero (by omega)))))) (fun h => slices_Clone_c (same (.inl h)))
   rw [one, if_neg (by rintro (h2 | h2); exact h h2; subst h2; simp at h1)] at k
   exact k
 obtain ⟨h1, h2⟩ := hm (f, t)
 refine ⟨_, rfl, ?_⟩
 cases hh : hasAct acts w'.Round f t with
 | none =>
   rw [hh] at h1
   exact cf (by rw [h1]; rfl) (go d (by unfold actOf; rw [hh]))
 | some a =>
   rw [hh] at h1
   refine ct (by rw [h1]; rfl) ?_
   rw [h2 a hh]
   cases hs : a.Silent with
   | true => exact ct rfl (go [] (by unfold actOf; rw [hh]; simp [hs]))
   | false => exact cf rfl (go a.Data (by unfold actOf; rw [hh]; simp [hs]))
structure Sq (n : Nat) (F : List (List (List Nat))) : Prop where
 len : F.length = n
 row : ∀ i, i < n → (row F i).length = n
theorem acts_loop {w : TWorld} {r : Int} (hw : (w.Acts.map key3).Nodup) {k : Nat} (hk : k ≤ w.Acts.length) {m : List ((Int × Int) × TAct)}
   (h : ∀ q : Int × Int, (mhas m q = true ↔ ∃ a ∈ w.Acts.take k, key3 a = (r, q.1, q.2)) ∧ ∀ a ∈ w.Acts.take k, key3 a = (r, q.1, q.2) → mgetD m q (⟨0, 0, 0, false, []⟩ : TAct) = a) (hkk : w.Acts.take k = w.Acts) :
   ∀ q : Int × Int, mhas m q = (hasAct w.Acts r q.1 q.2).isSome ∧ ∀ a, hasAct w.Acts r q.1 q.2 = some a → mgetD m q (⟨0, 0, 0, false, []⟩ : TAct) = a := by
 intro q
 obtain ⟨h1, h2⟩ := h q
 rw [hkk] at h1 h2
 refine ⟨?_, fun a ha => h2 a (hasAct_some ha).1 (hasAct_some ha).2⟩
 cases hh : hasAct w.Acts r q.1 q.2 with
 | none =>
   have : ¬ mhas m q = true := fun hm => by
     obtain ⟨a, ha, e⟩ := h1.1 hm
     exact hasAct_none hh a ha e
   simpa using this
 | some a => exact h1.2 ⟨a, hasAct_some hh⟩
theorem net_swap_c {w : TWorld} {n : Nat} {priv : List (List (List Nat))} {said : List (List Nat)} (hw : WOk w) (hn : w.Setup.N = n) (hp : Sq n priv) (hl : said.length = n) (hS : w.Sent.length ≤ 2000000) (hA : w.Acts.length ≤ 2000000)
   {K : List (List (List Nat)) → List (List Nat) → TWorld → Prop} (k : K (cames w priv) (heards w said) (nextW w priv said)) : net_swap.C w priv said K := by
 refine net_swap.q ?_
 unfold net_swap.Q
 obtain ⟨_, hN1, hN2, _, _, _⟩ := hw.set
 have hr0 := hw.r0
 have hr1 := hw.r1
 have e1 : IntKind.i64.wrap (w.Round + 1) = w.Round + 1 := wi64 (by omega) (by omega)
 rw [e1]
 refine LoopQ.rangeS w.Acts.length (fun k m => ∀ q : Int × Int, (mhas m q = true ↔ ∃ a ∈ w.Acts.take k, key3 a = (w.Round + 1, q.1, q.2)) ∧ ∀ a ∈ w.Acts.take k, key3 a = (w.Round + 1, q.1, q.2) → mgetD m q (⟨0, 0, 0, false, []⟩ : TAct) = a) (fun q => ⟨by simp [mhas], fun a ha => by simp at ha⟩) (by omega) ?_ ?_
 · intro j m next hj hI hnext
   obtain ⟨a, ha⟩ := get_some hj
   refine ctd (by dsimp only; omega) ⟨by dsimp only; omega, a, ha, cnE (fun h => hnext _ fun q => ?_) (fun h => hnext _ fun q => ?_)⟩
   · obtain ⟨h1, h2⟩ := hI q
     rw [take_snoc ha]
     by_cases hq : (a.From, a.To) = q
     · have hk : key3 a = (w.Round + 1, q.1, q.2) := by subst hq; simp [key3, h]
       refine ⟨?_, fun b hb he => ?_⟩
       · rw [mhas_set, decide_eq_true hq]; simp only [Bool.true_or, true_iff]; exact ⟨a, by simp, hk⟩
       · rw [mgetD_set, if_pos hq]
         have hb' : b ∈ w.Acts := by
           rcases List.mem_append.1 hb with hb | hb
           · exact List.mem_of_mem_take hb
           · rw [List.mem_singleton.1 hb]; exact mem_get ha
         exact map_inj hw.key (mem_get ha) hb' (hk.trans he.symm)
     · have hk : key3 a ≠ (w.Round + 1, q.1, q.2) := fun e => hq (by simp only [key3, Prod.mk.injEq] at e; exact Prod.ext e.2.1 e.2.2)
       refine ⟨?_, fun b hb he => ?_⟩
       · rw [mhas_set, decide_eq_false hq, Bool.false_or, h1]
         constructor
         · rintro ⟨b, hb, he⟩; exact ⟨b, List.mem_append_left _ hb, he⟩
         · rintro ⟨b, hb, he⟩
           rcases List.mem_append.1 hb with hb | hb
           · exact ⟨b, hb, he⟩
           · rw [List.mem_singleton.1 hb] at he; exact absurd he hk
       · rw [mgetD_set, if_neg hq]
         rcases List.mem_append.1 hb with hb | hb
         · exact h2 b hb he
         · rw [List.mem_singleton.1 hb] at he; exact absurd he hk
   · obtain ⟨h1, h2⟩ := hI q
     rw [take_snoc ha]
     have hk : key3 a ≠ (w.Round + 1, q.1, q.2) := fun e => h (by simp only [key3, Prod.mk.injEq] at e; exact e.1)
     refine ⟨?_, fun b hb he => ?_⟩
     · rw [h1]
       constructor
       · rintro ⟨b, hb, he⟩; exact ⟨b, List.mem_append_left _ hb, he⟩
       · rintro ⟨b, hb, he⟩
         rcases List.mem_append.1 hb with hb | hb
         · exact ⟨b, hb, he⟩
         · rw [List.mem_singleton.1 hb] at he; exact absurd he hk
     · rcases List.mem_append.1 hb with hb | hb
       · exact h2 b hb he
       · rw [List.mem_singleton.1 hb] at he; exact absurd he hk
 intro m next hI
 refine cfd (by dsimp only; omega) ?_
 have hm := acts_loop (r := w.Round + 1) hw.key (Nat.le_refl _) hI (List.take_length)
 clear hI
 rw [hn]
 refine net_Blank_c (by omega) ?_
 have hNn : w.Setup.N.toNat = n := by omega
 refine LoopQ.rangeS n (fun k s => s.1 = withSent w (w.Round + 1) (w.Sent ++ sentF w priv said n k) ∧ s.2.1 = tab n (fun i => if i < k then heardF w said i else []) ∧ s.2.2 = tab n (fun a => tab n fun b => if b < k then cameF w priv a b else [])) ⟨by simp [sentF, flat, withSent], by dsimp only; rw [tab_rep]; exact tab_ext fun i _ => by simp, by dsimp only; rw [tab_rep, tab_rep]; exact tab_ext fun i _ => tab_ext fun i _ => by simp⟩ (by omega) ?_ ?_
 · rintro i ⟨W, hd, gt⟩ next hi ⟨hW, hhd, hgt⟩ hnext
   dsimp only at hW hhd hgt
   obtain ⟨d, hd0⟩ := get_some (show i < said.length by omega)
   refine ctd (by dsimp only; omega) ⟨by dsimp only; omega, d, hd0, ?_⟩
   dsimp only
   rw [wsucc (by omega)]
   have hsl := flat_le (n := i) (m := n + 1) (g := fun b => sentRow w priv said b n) fun b => sentRow_le w priv said b n
   have hmul : i * (n + 1) ≤ 13 * 14 := Nat.mul_le_mul (by omega) (by omega)
   refine come_c (w' := W) (acts := w.Acts) (r := w.Round + 1) hm (by rw [hW]; rfl) (by rw [hW]; show (w.Sent ++ sentF w priv said n i).length ≤ _; rw [List.length_append]; show _ + (flat i fun b => sentRow w priv said b n).length ≤ _; omega) ?_
   refine ⟨by omega, by simp; omega, ?_⟩
   have ehd : actOf w.Acts (w.Round + 1) ((i + 1 : Nat) : Int) 0 d = heardF w said i := by unfold heardF; rw [pay_get hd0]; simp
   rw [ehd]
   refine LoopQ.rangeS n (fun j s => s.1 = withSent w (w.Round + 1) (w.Sent ++ (sentF w priv said n i ++ sentRow w priv said i j)) ∧ s.2 = tab n (fun a => tab n fun b => if b < i ∨ (b = i ∧ a < j) then cameF w priv a b else [])) ⟨by dsimp only; rw [hW]; simp [withSent, sentRow, flat], by dsimp only; rw [hgt]; exact tab_ext fun a _ => tab_ext fun b _ => by simp⟩ (by omega) ?_ ?_
   · rintro j ⟨W2, gt2⟩ next2 hj ⟨hW2, hgt2⟩ hnext2
     dsimp only at hW2 hgt2
     obtain ⟨pr, hpr⟩ := get_some (show i < priv.length by rw [hp.len]; omega)
     have hprl : pr.length = n := by have := hp.row i hi; rw [row_get hpr] at this; exact this
     obtain ⟨pd, hpd⟩ := get_some (show j < pr.length by omega)
     refine ctd (by dsimp only; omega) ⟨by dsimp only; omega, by dsimp only; simp; omega, by omega, pr, hpr, tab n (fun b => if b < i ∨ (b = i ∧ j < j) then cameF w priv j b else []), ?_, by dsimp only; omega, pd, hpd, ?_⟩
     · dsimp only; rw [hgt2, toNat_c]; exact tab_get _ hj
     dsimp only
     rw [wsucc (k := j) (by omega)]
     have hsl2 := sentRow_le w priv said i j
     refine come_c (w' := W2) (acts := w.Acts) (r := w.Round + 1) hm (by rw [hW2]; rfl) (by rw [hW2]; show (w.Sent ++ (sentF w priv said n i ++ sentRow w priv said i j)).length ≤ _; rw [List.length_append, List.length_append]; show _ + ((flat i fun b => sentRow w priv said b n).length + _) ≤ _; omega) ?_
     refine ⟨by omega, by rw [tab_len]; omega, ?_⟩
     rw [wsucc (k := j) (by omega)] at hnext2
     refine hnext2 _ ⟨?_, ?_⟩
     · dsimp only
       rw [hW2]
       have : actOf w.Acts (w.Round + 1) ((i + 1 : Nat) : Int) ((j + 1 : Nat) : Int) pd = cameF w priv j i := by unfold cameF; rw [row_get hpr, pay_get hpd]; simp
       rw [this]
       unfold withSent
       simp [sentRow, flat_succ, List.append_assoc]
     · dsimp only
       have : actOf w.Acts (w.Round + 1) ((i + 1 : Nat) : Int) ((j + 1 : Nat) : Int) pd = cameF w priv j i := by unfold cameF; rw [row_get hpr, pay_get hpd]; simp
       rw [this, hgt2, toNat_c, toNat_c, tab_set, tab_set]
       refine tab_ext fun a ha => ?_
       by_cases haj : a = j
       · subst haj
         rw [if_pos rfl]
         refine tab_ext fun b hb => ?_
         by_cases hbi : b = i
         · subst hbi; rw [if_pos rfl, if_pos (.inr ⟨rfl, by omega⟩)]
         · rw [if_neg hbi]
           by_cases hlt : b < i
           · rw [if_pos (.inl hlt), if_pos (.inl hlt)]
           · rw [if_neg (by omega), if_neg (by omega)]
       · rw [if_neg haj]
         refine tab_ext fun b hb => ?_
         by_cases hc : b < i ∨ (b = i ∧ a < j)
         · rw [if_pos hc, if_pos (by omega)]
         · rw [if_neg hc, if_neg (by omega)]
   · rintro ⟨W2, gt2⟩ next2 ⟨hW2, hgt2⟩
     dsimp only at hW2 hgt2
     refine cfd (by dsimp only; omega) ?_
     dsimp only
     rw [wsucc (k := i) (by omega)] at hnext
     refine hnext _ ⟨?_, ?_, ?_⟩
     · dsimp only; rw [hW2]; unfold sentF; rw [flat_succ]
     · dsimp only
       rw [hhd, toNat_c, tab_set]
       refine tab_ext fun a ha => ?_
       by_cases hai : a = i
       · subst hai; rw [if_pos rfl, if_pos (by omega)]
       · rw [if_neg hai]
         by_cases hlt : a < i
         · rw [if_pos hlt, if_pos (by omega)]
         · rw [if_neg hlt, if_neg (by omega)]
     · dsimp only
       rw [hgt2]
       refine tab_ext fun a ha => tab_ext fun b hb => ?_
       by_cases hlt : b < i + 1
       · rw [if_pos (by omega), if_pos hlt]
       · rw [if_neg (by omega), if_neg hlt]
 · rintro ⟨W, hd, gt⟩ next ⟨hW, hhd, hgt⟩
   dsimp only at hW hhd hgt
   refine cfd (by dsimp only; omega) ?_
   dsimp only
   have h1 : gt = cames w priv := by
     rw [hgt]; unfold cames; rw [hNn]; exact tab_ext fun a ha => tab_ext fun b hb => by rw [if_pos hb]
   have h2 : hd = heards w said := by
     rw [hhd]; unfold heards; rw [hNn]; exact tab_ext fun a ha => by rw [if_pos ha]
   have h3 : W = nextW w priv said := by rw [hW]; unfold nextW; rw [hNn]
   rw [h1, h2, h3]; exact k
theorem net_Table_Round_c {t : TTable} {w : TWorld} {n : Nat} {priv : List (List (List Nat))} {said : List (List Nat)} (hw : WOk w) (hn : w.Setup.N = n) (hp : Sq n priv) (hl : said.length = n) (hS : w.Sent.length ≤ 2000000) (hA : w.Acts.length ≤ 2000000)
   {K : List (List (List Nat)) → List (List Nat) → TTable → TWorld → Prop} (k : K (cames w priv) (heards w said) t (nextW w priv said)) : net_Table_Round.C t w priv said K :=
 net_Table_Round.q (net_swap_c hw hn hp hl hS hA k)
theorem sub_len' : ∀ {L C : List Int}, L.Nodup → (∀ x ∈ L, x ∈ C) → L.length ≤ C.length
 | [], _, _, _ => Nat.zero_le _
 | x :: L, C, hn, h => by
   have hx := h x (by simp)
   have hn' := List.nodup_cons.1 hn
   have := sub_len' (C := C.erase x) hn'.2 fun y hy => (List.mem_erase_of_ne (fun e => hn'.1 (by rw [← e]; exact hy))).2 (h y (by simp [hy]))
   rw [List.length_erase_of_mem hx] at this
   have hc : 0 < C.length := List.length_pos_of_mem hx
   simp; omega
theorem actOf_honest {w : TWorld} (hw : WOk w) {r f t : Int} (hf : f ∉ w.Corrupted) (d : List Nat) : actOf w.Acts r f t d = d := by
 unfold actOf
 cases h : hasAct w.Acts r f t with
 | none => rfl
 | some a =>
   obtain ⟨h1, h2⟩ := hasAct_some h
   have : a.From = f := by simp only [key3, Prod.mk.injEq] at h2; exact h2.2.1
   exact absurd (.inl (by rw [this]; exact hf)) (hw.act a h1).1
theorem cames_pay {w : TWorld} {priv : List (List (List Nat))} {n a b : Nat} (hn : w.Setup.N = n) (ha : a < n) (hb : b < n) : pay (row (cames w priv) a) b = cameF w priv a b := by
 have : w.Setup.N.toNat = n := by omega
 unfold cames; rw [this, row_get (tab_get _ ha), pay_get (tab_get _ hb)]
theorem tab_fill {α : Type} {n j : Nat} {g : Nat → α} {z : α} : (tab n fun i => if i < j then g i else z).set j (g j) = tab n fun i => if i < j + 1 then g i else z := by
 rw [tab_set]
 refine tab_ext fun i hi => ?_
 by_cases h1 : i = j
 · subst h1; rw [if_pos rfl, if_pos (by omega)]
 · rw [if_neg h1]
   by_cases h2 : i < j
   · rw [if_pos h2, if_pos (by omega)]
   · rw [if_neg h2, if_neg (by omega)]
theorem tab_fill0 {α : Type} (n : Nat) (g : Nat → α) (z : α) : List.replicate n z = tab n fun i => if i < 0 then g i else z := by
 rw [tab_rep]; exact tab_ext fun i _ => by simp
theorem tab_filln {α : Type} (n : Nat) (g : Nat → α) (z : α) : (tab n fun i => if i < n then g i else z) = tab n g := tab_ext fun i hi => if_pos hi
def ih (l : List Int) (i : Nat) : Int := (l[i]?).getD 0
theorem ih_get {l : List Int} {i : Nat} {x : Int} (h : l[i]? = some x) : ih l i = x := by unfold ih; rw [h]; rfl
def zeroW : TWorld := ⟨⟨0, 0, 0⟩, [], [], [], 0, []⟩
theorem copyL_same {α : Type} {x s : List α} (h : x.length = s.length) : copyL x s = s := by
 unfold copyL; rw [h, List.take_of_length_le (Nat.le_refl _), List.drop_of_length_le (by omega), List.append_nil]
end Go.Proofs.Ytpfpnkaeoedeiaa.Pl
end
section
set_option linter.unusedVariables false
set_option linter.unusedSimpArgs false
set_option maxRecDepth 100000
set_option maxHeartbeats 8000000
namespace Go.Proofs.Ytpfpnkaeoedeiaa.Sh
open Go.Sx
def juntoref04_Corrupted.A : Ann where
 loops := fun i => match i with
   | _ => []
 plans := fun i => match i with
   | _ => .stop
def juntoref04_Corrupted.W (s_0 : Int) (s_1 : Int) (s_2 : Int) (lA : Option Addr) (ln lc : Nat) (H : Heap) (R : Value → Heap → Prop) : Prop :=
 NewH (H.push (.cells #[.int .u64 s_0, .int .i64 s_1, .int .i64 s_2] 24 (0, 0))) fun H_ =>
 ∃ x0 : Int, ∃ x1 : Int, ∃ x2 : Int, cellH H_ (Addr.mk H.size 0 none) = some (.int .u64 x0) ∧ cellH H_ (((Addr.mk H.size 0 none)).add 1) = some (.int .i64 x1) ∧ cellH H_ (((Addr.mk H.size 0 none)).add 2) = some (.int .i64 x2) ∧ CallH P N.juntoref04_Setup [.agg #[.int .u64 x0, .int .i64 x1, .int .i64 x2]] H_ fun v H_2 =>
 ∃ r : Int, v = .int .i64 r ∧ cond (r != 0) (R (.int .i64 r) H_2)
  (∃ x : Int, cellH H_2 (((Addr.mk H.size 0 none)).add 2) = some (.int .i64 x) ∧ cond (decide (((ln : Nat) : Int) > x)) (R (.int .i64 2) H_2) (∃ x3 : Int, cellH H_2 (((Addr.mk H.size 0 none)).add 1) = some (.int .i64 x3) ∧ CallH P N.juntoref04_Rising [.int .i64 x3, .slice lA ln lc] H_2 fun v2 H_3 =>
 ∃ r2 : Bool, v2 = .bool r2 ∧ cond (!r2) (R (.int .i64 2) H_3)
  (R (.int .i64 0) H_3)))
theorem juntoref04_Corrupted.ok (s_0 : Int) (s_1 : Int) (s_2 : Int) (lA : Option Addr) (ln lc : Nat) (H : Heap) (R : Value → Heap → Prop) (h : juntoref04_Corrupted.W s_0 s_1 s_2 lA ln lc H R) : CallH P N.juntoref04_Corrupted [.agg #[.int .u64 s_0, .int .i64 s_1, .int .i64 s_2], .slice lA ln lc] H R :=
 okW Try.func30 (by kernel_rfl) Try.ntmps30 juntoref04_Corrupted.A (by kernel_rfl) (by kernel_rfl) h
def juntoref04_Setup.A : Ann where
 loops := fun i => match i with
   | _ => []
 plans := fun i => match i with
   | _ => .stop
def juntoref04_Setup.W (s_0 : Int) (s_1 : Int) (s_2 : Int) (H : Heap) (R : Value → Heap → Prop) : Prop :=
 NewH (H.push (.cells #[.int .u64 s_0, .int .i64 s_1, .int .i64 s_2] 24 (0, 0))) fun H_ =>
 ∃ x : Int, cellH H_ (Addr.mk H.size 0 none) = some (.int .u64 x) ∧ CallH P N.juntoref01_Is [.int .u64 x] H_ fun v H_2 =>
 ∃ r : Bool, v = .bool r ∧ cond (!r) (R (.int .i64 2) H_2) (∃ x2 : Int, cellH H_2 (((Addr.mk H.size 0 none)).add 1) = some (.int .i64 x2) ∧ cond (decide (x2 < 1)) (R (.int .i64 2) H_2) (∃ x3 : Int, cellH H_2 (((Addr.mk H.size 0 none)).add 1) = some (.int .i64 x3) ∧ cond (decide (x3 > 13)) (R (.int .i64 2) H_2) (∃ x4 : Int, cellH H_2 (((Addr.mk H.size 0 none)).add 2) = some (.int .i64 x4) ∧ cond (decide (x4 < 0)) (R (.int .i64 2) H_2) (∃ x5 : Int, cellH H_2 (((Addr.mk H.size 0 none)).add 2) = some (.int .i64 x5) ∧ cond (decide (x5 > 13)) (R (.int .i64 2) H_2) (∃ x6 : Int, cellH H_2 (((Addr.mk H.size 0 none)).add 1) = some (.int .i64 x6) ∧ ∃ x7 : Int, cellH H_2 (((Addr.mk H.size 0 none)).add 2) = some (.int .i64 x7) ∧ cond (decide (x6 < (IntKind.i64.wrap ((IntKind.i64.wrap (4 * x7)) + 1)))) (R (.int .i64 2) H_2) (∃ x8 : Int, cellH H_2 (Addr.mk H.size 0 none) = some (.int .u64 x8) ∧ ∃ x9 : Int, cellH H_2 (((Addr.mk H.size 0 none)).add 1) = some (.int .i64 x9) ∧ cond (decide (x8 ≤ (IntKind.u64.wrap x9))) (R (.int .i64 2) H_2)
  (R (.int .i64 0) H_2)))))))
theorem juntoref04_Setup.ok (s_0 : Int) (s_1 : Int) (s_2 : Int) (H : Heap) (R : Value → Heap → Prop) (h : juntoref04_Setup.W s_0 s_1 s_2 H R) : CallH P N.juntoref04_Setup [.agg #[.int .u64 s_0, .int .i64 s_1, .int .i64 s_2]] H R :=
 okW Try.func48 (by kernel_rfl) Try.ntmps48 juntoref04_Setup.A (by kernel_rfl) (by kernel_rfl) h
def juntoref04_Rising.A : Ann where
 loops := fun i => match i with
   | 8198 => [(9, .int .i64)]
   | _ => []
 plans := fun i => match i with
   | _ => .stop
def juntoref04_Rising.W (n : Int) (lA : Option Addr) (ln lc : Nat) (H : Heap) (R : Value → Heap → Prop) : Prop :=
 LoopI (σ := Int) (fun κ => κ 0 H) fun s z H_ next =>
 cond (decide (s < ((ln : Nat) : Int))) (∃ a : Addr, lA = some a ∧ 0 ≤ s ∧ s < ((ln : Nat) : Int) ∧ ∃ x : Int, cellH H_ (a.add (Int.toNat s)) = some (.int .i64 x) ∧ cond (decide (x < 1)) (R (.bool false) H_) (cond (decide (x > n)) (R (.bool false) H_) (cond (decide (s > 0)) (∃ a2 : Addr, lA = some a2 ∧ 0 ≤ (IntKind.i64.wrap (s - 1)) ∧ (IntKind.i64.wrap (s - 1)) < ((ln : Nat) : Int) ∧ ∃ x2 : Int, cellH H_ (a2.add (Int.toNat (IntKind.i64.wrap (s - 1)))) = some (.int .i64 x2) ∧ cond (decide (x2 ≥ x)) (R (.bool false) H_)
  (next (IntKind.i64.wrap (s + 1)) H_)) (next (IntKind.i64.wrap (s + 1)) H_))))
  (R (.bool true) H_)
theorem juntoref04_Rising.ok (n : Int) (lA : Option Addr) (ln lc : Nat) (H : Heap) (R : Value → Heap → Prop) (h : juntoref04_Rising.W n lA ln lc H R) : CallH P N.juntoref04_Rising [.int .i64 n, .slice lA ln lc] H R :=
 okW Try.func49 (by kernel_rfl) Try.ntmps49 juntoref04_Rising.A (by kernel_rfl) (by kernel_rfl) h
end Go.Proofs.Ytpfpnkaeoedeiaa.Sh
namespace Go.Proofs.Ytpfpnkaeoedeiaa.Sh
open Go.Sx Go.Lf
def juntoref04_Setup.C (s : TSetup) (K : Int → Prop) : Prop :=
 ∀ (Z : Nat → Prop) (H : Heap), ∀ (sv : Int), sv = (s.P : Int) → ∀ KK : Value → Heap → Prop,
   (∀ (Z' : Nat → Prop) (H' : Heap), Ext H H' → Old Z H Z' → ∀ (r0 : Int), K r0 → KK (.int .i64 r0) H') →
   CallH P N.juntoref04_Setup [.agg #[.int .u64 sv, .int .i64 s.N, .int .i64 s.T_]] H KK
def juntoref04_Setup.Q (s : TSetup) (K : Int → Prop) : Prop :=
 juntoref01_Is.C s.P (fun (x : Bool) =>
 cond (!x) (K 2)
  (cond (decide (s.N < 1)) (K 2)
  (cond (decide (s.N > 13)) (K 2)
  (cond (decide (s.T_ < 0)) (K 2)
  (cond (decide (s.T_ > 13)) (K 2)
  (cond (decide (s.N < (IntKind.i64.wrap ((IntKind.i64.wrap (4 * s.T_)) + 1)))) (K 2)
  (cond (decide ((s.P : Int) ≤ (IntKind.u64.wrap s.N))) (K 2)
  (K 0))))))))
theorem juntoref04_Setup.q {s : TSetup} {K : Int → Prop} (q : juntoref04_Setup.Q s K) : juntoref04_Setup.C s K := by
 intro Z H sv he KK hk; cases he; apply juntoref04_Setup.ok; unfold juntoref04_Setup.W; unfold juntoref04_Setup.Q at q; obtain ⟨σ, hz, hσ⟩ := tags Z; have hs : Stp ([] : List Nat) σ H σ H := Stp.refl _ _ _; clear hz; refine NewH.mk fun H_ e => ?_; obtain ⟨xσ, st, b⟩ := BoxF.new σ 0 e; refine ⟨_, b.cell0, ?_⟩; refine q (Zt xσ) H_ _ rfl _ (fun Z2 H_2 hE hO x q => ?_); obtain ⟨xσ2, st2⟩ := call0 hE xσ; refine ⟨_, rfl, ?_⟩; refine condI (fun q => ?_) (fun q => ?_) q
 · replace hs := hs.trans (st.then st2); exact hk (Zt xσ2) _ (hs.ext hσ) (hs.old hσ) _ q
 replace b := b.step st2; refine ⟨_, b.cell 1 rfl, ?_⟩; refine condI (fun q => ?_) (fun q => ?_) q
 · replace hs := hs.trans (st.then st2); exact hk (Zt xσ2) _ (hs.ext hσ) (hs.old hσ) _ q
 refine ⟨_, b.cell 1 rfl, ?_⟩; refine condI (fun q => ?_) (fun q => ?_) q
 · replace hs := hs.trans (st.then st2); exact hk (Zt xσ2) _ (hs.ext hσ) (hs.old hσ) _ q
 refine ⟨_, b.cell 2 rfl, ?_⟩; refine condI (fun q => ?_) (fun q => ?_) q
 · replace hs := hs.trans (st.then st2); exact hk (Zt xσ2) _ (hs.ext hσ) (hs.old hσ) _ q
 refine ⟨_, b.cell 2 rfl, ?_⟩; refine condI (fun q => ?_) (fun q => ?_) q
 · replace hs := hs.trans (st.then st2); exact hk (Zt xσ2) _ (hs.ext hσ) (hs.old hσ) _ q
 refine ⟨_, b.cell 1 rfl, ?_⟩; refine ⟨_, b.cell 2 rfl, ?_⟩; refine condI (fun q => ?_) (fun q => ?_) q
 · replace hs := hs.trans (st.then st2); exact hk (Zt xσ2) _ (hs.ext hσ) (hs.old hσ) _ q
 refine ⟨_, b.cell0, ?_⟩; refine ⟨_, b.cell 1 rfl, ?_⟩; refine condI (fun q => ?_) (fun q => ?_) q
 · replace hs := hs.trans (st.then st2); exact hk (Zt xσ2) _ (hs.ext hσ) (hs.old hσ) _ q
 replace hs := hs.trans (st.then st2); exact hk (Zt xσ2) _ (hs.ext hσ) (hs.old hσ) _ q
def juntoref04_Rising.C (n : Int) (l : (List Int)) (K : Bool → Prop) : Prop :=
 ∀ (Z : Nat → Prop) (H : Heap), ∀ (lA : Option Addr) (ln lc : Nat), ln = l.length → SlF i64L Z H lA lc l → ∀ KK : Value → Heap → Prop,
   (∀ (Z' : Nat → Prop) (H' : Heap), Ext H H' → Old Z H Z' → ∀ (r0 : Bool), K r0 → KK (.bool r0) H') →
   CallH P N.juntoref04_Rising [.int .i64 n, .slice lA ln lc] H KK
def juntoref04_Rising.Q (n : Int) (l : (List Int)) (K : Bool → Prop) : Prop :=
 LoopQ (τ := Int) 0 fun t nextQ =>
 cond (decide (t < ((l.length : Nat) : Int))) (0 ≤ t ∧ ∃ x : Int, l[Int.toNat t]? = some x ∧ cond (decide (x < 1)) (K false)
  (cond (decide (x > n)) (K false)
  (cond (decide (t > 0)) (0 ≤ (IntKind.i64.wrap (t - 1)) ∧ ∃ x2 : Int, l[Int.toNat (IntKind.i64.wrap (t - 1))]? = some x2 ∧ cond (decide (x2 ≥ x)) (K false)
  (nextQ (IntKind.i64.wrap (t + 1))))
  (nextQ (IntKind.i64.wrap (t + 1))))))
  (K true)
theorem juntoref04_Rising.q {n : Int} {l : (List Int)} {K : Bool → Prop} (q : juntoref04_Rising.Q n l K) : juntoref04_Rising.C n l K := by
 intro Z H lA ln lc hn f KK hk; cases hn; apply juntoref04_Rising.ok; unfold juntoref04_Rising.W; unfold juntoref04_Rising.Q at q; obtain ⟨σ, hz, hσ⟩ := tags Z; have hs : Stp ([] : List Nat) σ H σ H := Stp.refl _ _ _; replace f := f.wide hz; clear hz; refine LoopI.ofQ q (fun t_ s_ hp_ => ∃ σ_, Stp [] σ H σ_ hp_ ∧ t_ = s_) (fun h k => h _ _ k) ⟨_, Stp.refl _ _ _, rfl⟩ ?_; rintro t _ _ H_ next nextQ ⟨xσ, st, rfl⟩ q hnext; (try dsimp only at q ⊢); have sl0 := st; refine condJ (fun q => ?_) (fun q => ?_) q
 · replace hs := hs.trans st; exact hk (Zt xσ) _ (hs.ext hσ) (hs.old hσ) _ q
 obtain ⟨h0, x, hx, q⟩ := q; replace f := f.step st; obtain ⟨a, ha, hi⟩ := f.addr h0 hx rfl; refine ⟨a, ha, hi.1, hi.2, ?_⟩; have hc := f.ldi ha h0 hx; refine ⟨_, hc.val, ?_⟩; refine condI (fun q => ?_) (fun q => ?_) q
 · replace hs := hs.trans st; exact hk (Zt xσ) _ (hs.ext hσ) (hs.old hσ) _ q
 refine condI (fun q => ?_) (fun q => ?_) q
 · replace hs := hs.trans st; exact hk (Zt xσ) _ (hs.ext hσ) (hs.old hσ) _ q
 refine condJ (fun q => ?_) (fun q => ?_) q
 · exact hnext (IntKind.i64.wrap (t + 1)) _ _ ⟨_, sl0, rfl⟩ q
 obtain ⟨h02, x2, hx2, q⟩ := q; obtain ⟨a2, ha2, hi2⟩ := f.addr h02 hx2 rfl; refine ⟨a2, ha2, hi2.1, hi2.2, ?_⟩; have hc2 := f.ldi ha2 h02 hx2; refine ⟨_, hc2.val, ?_⟩; refine condI (fun q => ?_) (fun q => ?_) q
 · replace hs := hs.trans st; exact hk (Zt xσ) _ (hs.ext hσ) (hs.old hσ) _ q
 exact hnext (IntKind.i64.wrap (t + 1)) _ _ ⟨_, sl0, rfl⟩ q
def juntoref04_Corrupted.C (s : TSetup) (l : (List Int)) (K : Int → Prop) : Prop :=
 ∀ (Z : Nat → Prop) (H : Heap), ∀ (sv : Int), sv = (s.P : Int) → ∀ (lA : Option Addr) (ln lc : Nat), ln = l.length → SlF i64L Z H lA lc l → ∀ KK : Value → Heap → Prop,
   (∀ (Z' : Nat → Prop) (H' : Heap), Ext H H' → Old Z H Z' → ∀ (r0 : Int), K r0 → KK (.int .i64 r0) H') →
   CallH P N.juntoref04_Corrupted [.agg #[.int .u64 sv, .int .i64 s.N, .int .i64 s.T_], .slice lA ln lc] H KK
def juntoref04_Corrupted.Q (s : TSetup) (l : (List Int)) (K : Int → Prop) : Prop :=
 juntoref04_Setup.C s (fun (x : Int) =>
 cond (x != 0) (K x)
  (cond (decide (((l.length : Nat) : Int) > s.T_)) (K 2)
  (juntoref04_Rising.C s.N l (fun (x2 : Bool) =>
 cond (!x2) (K 2)
  (K 0)))))
theorem juntoref04_Corrupted.q {s : TSetup} {l : (List Int)} {K : Int → Prop} (q : juntoref04_Corrupted.Q s l K) : juntoref04_Corrupted.C s l K := by
 intro Z H sv he lA ln lc hn f KK hk; cases he; cases hn; apply juntoref04_Corrupted.ok; unfold juntoref04_Corrupted.W; unfold juntoref04_Corrupted.Q at q; obtain ⟨σ, hz, hσ⟩ := tags Z; have hs : Stp ([] : List Nat) σ H σ H := Stp.refl _ _ _; replace f := f.wide hz; clear hz; refine NewH.mk fun H_ e => ?_; obtain ⟨xσ, st, b⟩ := BoxF.new σ 0 e; refine ⟨_, _, _, b.cell0, b.cell 1 rfl, b.cell 2 rfl, ?_⟩; refine q (Zt xσ) H_ _ rfl _ (fun Z2 H_2 hE hO x q => ?_); obtain ⟨xσ2, st2⟩ := call0 hE xσ; refine ⟨_, rfl, ?_⟩; refine condI (fun q => ?_) (fun q => ?_) q
 · replace hs := hs.trans (st.then st2); exact hk (Zt xσ2) _ (hs.ext hσ) (hs.old hσ) _ q
 replace b := b.step st2; refine ⟨_, b.cell 2 rfl, ?_⟩; refine condI (fun q => ?_) (fun q => ?_) q
 · replace hs := hs.trans (st.then st2); exact hk (Zt xσ2) _ (hs.ext hσ) (hs.old hσ) _ q
 refine ⟨_, b.cell 1 rfl, ?_⟩; replace f := f.step (st.then st2); refine q (Zt xσ2) H_2 _ _ _ rfl f _ (fun Z3 H_3 hE2 hO2 x2 q => ?_); obtain ⟨xσ3, st3⟩ := call0 hE2 xσ2; refine ⟨_, rfl, ?_⟩; refine condI (fun q => ?_) (fun q => ?_) q
 · replace hs := hs.trans (st.then (st2.then st3)); exact hk (Zt xσ3) _ (hs.ext hσ) (hs.old hσ) _ q
 replace hs := hs.trans (st.then (st2.then st3)); exact hk (Zt xσ3) _ (hs.ext hσ) (hs.old hσ) _ q
end Go.Proofs.Ytpfpnkaeoedeiaa.Sh
end
