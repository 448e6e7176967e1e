import Derived.Test.YtpfpnkaeoedeiaaSC
namespace Go.Lf
end Go.Lf
namespace Go.Proofs.Ytpfpnkaeoedeiaa.Back
end Go.Proofs.Ytpfpnkaeoedeiaa.Back
namespace Go.Proofs.Ytpfpnkaeoedeiaa.Pl
end Go.Proofs.Ytpfpnkaeoedeiaa.Pl
namespace Go.Proofs.Ytpfpnkaeoedeiaa.Sh
end Go.Proofs.Ytpfpnkaeoedeiaa.Sh
namespace Go.Proofs.Ytpfpnkaeoedeiaa.Sp
end Go.Proofs.Ytpfpnkaeoedeiaa.Sp
namespace Go.Sx
end Go.Sx
section
set_option linter.unusedVariables false
namespace Go.Proofs.Ytpfpnkaeoedeiaa.Pl
open Go.Sx Go.Lf Go.Proofs.Ytpfpnkaeoedeiaa.Sh Go.Proofs.Ytpfpnkaeoedeiaa.Sp Go.Proofs.Ytpfpnkaeoedeiaa.Srt Go.King
theorem sayV_honest {w : TWorld} {n f : Nat} {x : List Nat} (hw : WOk w) (hn : w.Setup.N = n) (hf : f < n) (hb : bad w f = false) {i : Nat} (hi : i < n) : sayV w n f x i = x := by
 unfold sayV
 rw [cames_pay hn hi hf]
 show actOf _ _ _ _ _ = _
 unfold sayP
 rw [actOf_honest hw (of_decide_eq_false hb), sendP_pay hf hi, if_pos (.inr (by simp)), if_pos rfl]
theorem KingHeard_c {w : TWorld} {from_ : Int} {x : List Nat} (hW : SmW w) (hS : w.Sent.length ≤ 1700000) (hx : x.length < 4611686018427387904) : juntolaw18_KingHeard.C w from_ x fun b => b = true := by
 refine juntolaw18_KingHeard.q (king_Say_c hW hS hx (fun h => ct (bne_t h) (alive18_c rfl)) ?_)
 intro n tt f ok _
 have hw := ok.ok.wok
 have hn := ok.ok.en
 have ht := ok.ok.et
 have hfn := ok.lt
 have hn2 := sm13 hw hn
 have hWc := hW.cor
 have hr : w.Round + 1 + 2 * (tt + 1 : Nat) ≤ 1048576 := by have := ok.ok.rnd; omega
 have big : 4 * tt + 1 ≤ n := by have := hw.set.2.2.2.2.1; omega
 have hw1 : WOk (sayW w n f x) := hw.next _ _ (by omega)
 have hr1 : (sayW w n f x).Round + 2 * (tt + 1 : Nat) ≤ 1048576 := by show w.Round + 1 + _ ≤ _; omega
 refine cf rfl (cf (bne_f (by rw [tab_len]; exact hn.symm)) (juntoref17_Everybody_c hn (by omega) (juntoref17_Honest_c (by omega) (by unfold everyL; simp; omega) ?_)))
 have same : ∀ i, i < n → pay (tab n (runK (sayW w n f x) n tt (sayV w n f x) (tt + 1)).2) i = (runK (sayW w n f x) n tt (sayV w n f x) (tt + 1)).2 i := fun i hi => pay_tab hi
 have sh : ∀ i, i < n → ((runK (sayW w n f x) n tt (sayV w n f x) (tt + 1)).2 i).length < 4611686018427387904 := by
   have e : ∀ k, k ≤ tt + 1 → (∀ i, i < n → (runK (sayW w n f x) n tt (pay (tab n (sayV w n f x))) k).2 i = (runK (sayW w n f x) n tt (sayV w n f x) k).2 i) ∧ (runK (sayW w n f x) n tt (pay (tab n (sayV w n f x))) k).1 = (runK (sayW w n f x) n tt (sayV w n f x) k).1 := say_cong big
   intro i hi
   rw [← (e (tt + 1) (Nat.le_refl _)).1 i hi]
   exact run_short hw1 hn (short_tab (say_short hw hn hfn hx)) (tt + 1) (by omega) hr1 i hi
 refine juntolaw18_one_c hw hn ht (tab_len _ _) (short_tab sh) (fun y hy => ?_) (fun hno => ?_)
 · refine ct rfl (juntoref17_Is_c (by omega) ?_)
   refine cnB (fun _ => rfl) (fun hb => ?_)
   have hbf : bad w f = false := by
     have := of_decide_eq_false hb
     rw [ok.fr] at this
     exact decide_eq_false this
   have e : y = x := by
     rw [← hy f hfn hbf, same f hfn]
     exact run_valid hw1 hn ht hr1 (sayV w n f x) (fun i hi hb => sayV_honest hw hn hfn hbf hi) f hfn hbf
   refine juntoref01_Same_c (by rw [e]; exact hx) ?_
   exact decide_eq_true e
 · obtain ⟨y, hy⟩ := run_agree hw1 hn ht hr1 (sayV w n f x)
   exact absurd ⟨y, fun i hi hb => by rw [same i hi]; exact hy i hi hb⟩ hno
end Go.Proofs.Ytpfpnkaeoedeiaa.Pl
end
