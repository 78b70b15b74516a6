/- The contract of gauge.Residual, at one or two columns. -/
import Derived.Test.YtmeppcoekmoofaaFit
namespace Go.Proofs.Ytmeppcoekmoofaa
open Go.RowKit
set_option linter.unusedSimpArgs false
set_option linter.unusedVariables false

theorem GRead.det2 {R : Gm} {H : Nat → Int} {m n : Nat} (h : GRead R H m n) (n2 : n ≤ 2) : -1280000 ≤ detF n (Proofs.Ytmeppcoekmoofaa.gm R m) ∧ detF n (Proofs.Ytmeppcoekmoofaa.gm R m) ≤ 1280000 := by
  have n1 := h.n1
  rcases (by omega : n = 1 ∨ n = 2) with e | e
  · subst e
    have := h.gm m 0 0 (Nat.le_refl _) (by omega) (by omega)
    show _ ≤ Proofs.Ytmeppcoekmoofaa.gm R m 0 0 ∧ _
    exact ⟨by omega, by show Proofs.Ytmeppcoekmoofaa.gm R m 0 0 ≤ _; omega⟩
  · subst e
    have a := h.gm m 0 0 (Nat.le_refl _) (by omega) (by omega)
    have b := h.gm m 0 1 (Nat.le_refl _) (by omega) (by omega)
    have c := h.gm m 1 0 (Nat.le_refl _) (by omega) (by omega)
    have d := h.gm m 1 1 (Nat.le_refl _) (by omega) (by omega)
    have e1 := mul_abs a d
    have e2 := mul_abs b c
    rw [detF_two]
    unfold Proofs.Ytmeppcoekmoofaa.det2
    omega
theorem GRead.detN2 {R : Gm} {H : Nat → Int} {m n : Nat} (h : GRead R H m n) (n2 : n ≤ 2) (k : Nat) : -128000000 ≤ detN n (Proofs.Ytmeppcoekmoofaa.gm R m) (Proofs.Ytmeppcoekmoofaa.gr R H m) k ∧ detN n (Proofs.Ytmeppcoekmoofaa.gm R m) (Proofs.Ytmeppcoekmoofaa.gr R H m) k ≤ 128000000 := by
  have n1 := h.n1
  have en : ∀ i j, i < n → j < n → -80000 ≤ colSet (Proofs.Ytmeppcoekmoofaa.gm R m) k (Proofs.Ytmeppcoekmoofaa.gr R H m) i j ∧ colSet (Proofs.Ytmeppcoekmoofaa.gm R m) k (Proofs.Ytmeppcoekmoofaa.gr R H m) i j ≤ 80000 := fun i j hi hj => by
    unfold colSet
    split
    · exact h.gr m i (Nat.le_refl _) hi
    · have := h.gm m i j (Nat.le_refl _) hi hj; omega
  unfold detN
  rcases (by omega : n = 1 ∨ n = 2) with e | e
  · subst e
    have := en 0 0 (by omega) (by omega)
    show _ ≤ colSet _ _ _ 0 0 ∧ colSet _ _ _ 0 0 ≤ _
    omega
  · subst e
    rw [detF_two]
    unfold Proofs.Ytmeppcoekmoofaa.det2
    by_cases hk : k = 0
    · subst hk
      have a := en 0 0 (by omega) (by omega)
      have c := en 1 0 (by omega) (by omega)
      have b : -800 ≤ colSet (Proofs.Ytmeppcoekmoofaa.gm R m) 0 (Proofs.Ytmeppcoekmoofaa.gr R H m) 0 1 ∧ colSet (Proofs.Ytmeppcoekmoofaa.gm R m) 0 (Proofs.Ytmeppcoekmoofaa.gr R H m) 0 1 ≤ 800 := h.gm m 0 1 (Nat.le_refl _) (by omega) (by omega)
      have d : -800 ≤ colSet (Proofs.Ytmeppcoekmoofaa.gm R m) 0 (Proofs.Ytmeppcoekmoofaa.gr R H m) 1 1 ∧ colSet (Proofs.Ytmeppcoekmoofaa.gm R m) 0 (Proofs.Ytmeppcoekmoofaa.gr R H m) 1 1 ≤ 800 := h.gm m 1 1 (Nat.le_refl _) (by omega) (by omega)
      have e1 := mul_abs a d
      have e2 := mul_abs b c
      omega
    · have b := en 0 1 (by omega) (by omega)
      have d := en 1 1 (by omega) (by omega)
      have a : -800 ≤ colSet (Proofs.Ytmeppcoekmoofaa.gm R m) k (Proofs.Ytmeppcoekmoofaa.gr R H m) 0 0 ∧ colSet (Proofs.Ytmeppcoekmoofaa.gm R m) k (Proofs.Ytmeppcoekmoofaa.gr R H m) 0 0 ≤ 800 := by
        unfold colSet; rw [if_neg (fun e => hk e.symm)]; exact h.gm m 0 0 (Nat.le_refl _) (by omega) (by omega)
      have c : -800 ≤ colSet (Proofs.Ytmeppcoekmoofaa.gm R m) k (Proofs.Ytmeppcoekmoofaa.gr R H m) 1 0 ∧ colSet (Proofs.Ytmeppcoekmoofaa.gm R m) k (Proofs.Ytmeppcoekmoofaa.gr R H m) 1 0 ≤ 800 := by
        unfold colSet; rw [if_neg (fun e => hk e.symm)]; exact h.gm m 1 0 (Nat.le_refl _) (by omega) (by omega)
      have e1 := mul_abs a d
      have e2 := mul_abs b c
      omega

/-- The denominator that Fit tells. -/
def fitD (n : Nat) (M : Gm) (r : Nat → Int) : Int := (detF n M).tdiv (fitG (detF n M) (detN n M r) n)
def fitF (n : Nat) (M : Gm) (r : Nat → Int) (k : Nat) : Int := (detN n M r k).tdiv (fitG (detF n M) (detN n M r) n)
theorem facts_at (n : Nat) (M : Gm) (r : Nat → Int) (k : Nat) (hk : k < n) : ((facts n M r).map (Value.int .i64))[k]? = some (.int .i64 (fitF n M r k)) := by
  unfold facts
  rw [List.getElem?_map, List.getElem?_map, List.getElem?_range hk]
  rfl
theorem fitD_ne {n : Nat} {M : Gm} {r : Nat → Int} (h : detF n M ≠ 0) : fitD n M r ≠ 0 := by
  have hdv := (fitG_dvd (detF n M) (detN n M r) n).1
  have hg := fitG_ne (N := detN n M r) h n
  unfold fitD
  obtain ⟨G, hG⟩ : ∃ G, G = fitG (detF n M) (detN n M r) n := ⟨_, rfl⟩
  rw [← hG] at hdv hg ⊢
  obtain ⟨q, hq⟩ := hdv
  intro e
  rw [hq, Int.mul_tdiv_cancel_left q hg] at e
  rw [e, Int.mul_zero] at hq
  exact h hq
/-- What Residual reckons before it reduces. -/
def resN (n : Nat) (M : Gm) (r H : Nat → Int) (m : Nat) : Int := sumTo (fun k => H k * H k * fitD n M r) m - sumTo (fun k => fitF n M r k * r k) n
def ResPost (n : Nat) (M : Gm) (r H : Nat → Int) (m : Nat) (w : World) (e : Ending) (w' : World) : Prop :=
  Below w.heap.size w w' ∧ ((detF n M = 0 ∧ e = .returned (.tuple #[.int .i64 0, .int .i64 0, .int .i64 6])) ∨
    (detF n M ≠ 0 ∧ e = .returned (.tuple #[.int .i64 ((resN n M r H m).tdiv (Int.gcd (resN n M r H m) (fitD n M r))), .int .i64 ((fitD n M r).tdiv (Int.gcd (resN n M r H m) (fitD n M r))), .int .i64 0])))

set_option maxHeartbeats 1000000 in
theorem resid_nil (A Ah : Option Addr) (cap nh ch : Nat) (w : World) :
    Calls Try.prog 29 #[.slice A 0 cap, .slice Ah nh ch] w fun e w' => e = .returned (.tuple #[.int .i64 0, .int .i64 0, .int .i64 8]) ∧ Below w.heap.size w w' := by
  go_enter Try.func29, Try.ntmps29
  go_wp2_with fail
  refine Calls.mono (fit_nil _ _ _ _ _ _) ?_
  rintro e w1 ⟨rfl, hb⟩
  go_wp2_with fail
  go_returns
  exact ⟨rfl, hb.alloc hb.size _⟩

set_option maxRecDepth 100000 in
set_option maxHeartbeats 8000000 in
theorem resid_ok (rO oo rcap : Nat) (rb0 rc0 : Nat → Nat) (R : Gm) (m n : Nat) (Ah : Option Addr) (hcap : Nat) (hs : List Int) (w : World) (hM : GMat w rO oo m n rb0 rc0 R) (hH : FlatSl w 1 Ah m hcap hs) (hG : GRead R (ix hs) m n) (hrc : m ≤ rcap) (n2 : n ≤ 2) :
    Calls Try.prog 29 #[.slice (some ⟨rO, oo, none⟩) m rcap, .slice Ah m hcap] w (ResPost n (gm R m) (gr R (ix hs) m) (ix hs) m w) := by
  have n1 := hG.n1; have m1 := hG.m1; have m8 := hG.m8
  obtain ⟨r, hr⟩ : ∃ r, r = gr R (ix hs) m := ⟨_, rfl⟩
  have hd := hG.det2 n2
  have hN := hG.detN2 n2
  rw [← hr] at hN
  rw [← hr]
  have hrb : ∀ i, i < n → -80000 ≤ r i ∧ r i ≤ 80000 := fun i hi => by rw [hr]; exact hG.gr m i (Nat.le_refl _) hi
  have hDb : -1280000 ≤ fitD n (gm R m) r ∧ fitD n (gm R m) r ≤ 1280000 := tdiv_bounds _ _ hd.1 hd.2
  have hFb : ∀ k, -128000000 ≤ fitF n (gm R m) r k ∧ fitF n (gm R m) r k ≤ 128000000 := fun k => tdiv_bounds _ _ (hN k).1 (hN k).2
  have HM := Lib.hid hM; have HH := Lib.hid hH; have HG := Lib.hid hG; have HRR := Lib.hid hr; have HRB := Lib.hid hrb; have HFB := Lib.hid hFb
  clear hM hH hG hr hd hN hrb hFb
  have hfit := fit_ok rO oo rcap rb0 rc0 R m n Ah hcap hs w HM.out HH.out HG.out hrc
  rw [← HRR.out] at hfit
  have HFIT := Lib.hid hfit; clear hfit
  go_enter Try.func29, Try.ntmps29
  go_wp2_with fail
  refine Calls.mono HFIT.out ?_
  rintro e w1 ⟨hb, ⟨hz, rfl⟩ | ⟨hne, v, rfl, hown⟩⟩
  · have HZ := Lib.hid hz; clear hz
    go_wp2_with fail
    go_returns
    exact ⟨hb.alloc hb.size _, Or.inl ⟨HZ.out, rfl⟩⟩
  · obtain ⟨gv, cv, hv, hgv1, hgv2⟩ := hown.form (by omega)
    subst hv
    obtain ⟨d, hd⟩ : ∃ d, d = fitD n (gm R m) r := ⟨_, rfl⟩
    have hd' : (detF n (gm R m)).tdiv (fitG (detF n (gm R m)) (detN n (gm R m) r) n) = d := hd.symm
    rw [hd']
    have hdne : d ≠ 0 := by rw [hd]; exact fitD_ne hne
    rw [← hd] at hDb
    have HDD := Lib.hid hd; have HNE := Lib.hid hne; have HDN := Lib.hid hdne
    have hHb := HH.out.keep (by omega) hb
    obtain ⟨ha, ho, hA, -⟩ := HH.out.at' (by omega)
    subst hA
    have hcapH := HH.out.le
    have hcF : ∀ k, k < n → w1.cell? ⟨gv, k, none⟩ = some (.int .i64 (fitF n (gm R m) r k)) := fun k hk => by
      rw [hown.cellAt k (by omega), facts_at n _ _ k hk]
    have HCF := Lib.hid hcF
    have B1 : Below w1.heap.size w1 (w1.alloc (.cells #[.slice (some ⟨gv, 0, none⟩) n cv, .int .i64 d] 54)) := (Below.refl _ _).alloc (Nat.le_refl _) _
    have FB := FitBox.new w1 (.slice (some ⟨gv, 0, none⟩) n cv) d
    have hcv := own_cap hown
    have hb2 := hb.trans (B1.mono hb.size)
    have hsys := system_ok rO oo rcap rb0 rc0 R m n (some ⟨ha, ho, none⟩) hcap hs _ (HM.out.below hb2) (HH.out.keep (by omega) hb2) HG.out hrc
    have HSYS := Lib.hid hsys
    clear hd hd' hne hdne hown hcF hsys hHb
    go_wp2_with fail
    refine Calls.mono HSYS.out ?_
    rintro e w2 ⟨ob, g, rb, rc, rfl, -, hgr, hg, hb3⟩
    have F2 := FB.below hb3
    have hb4 := hb2.trans (hb3.mono hb2.size)
    have hHc := HH.out.keep (by omega) hb4
    have f0 := F2.c0; have f1 := F2.c1; have f2 := F2.lt
    obtain ⟨ha', ho', hA', hcellH⟩ := hHc.at' (by omega)
    simp only [Option.some.injEq, Addr.mk.injEq, true_and, and_true] at hA'
    obtain ⟨rfl, rfl⟩ := hA'
    have hgvl : gv < w2.heap.size := by have := hb3.size; simp at this; omega
    have hcF2 : ∀ k, k < n → w2.cell? ⟨gv, k, none⟩ = some (.int .i64 (fitF n (gm R m) r k)) := fun k hk =>
      (hb3.cell (p := ⟨gv, k, none⟩) (by simp; omega)).trans ((B1.cell (p := ⟨gv, k, none⟩) hgv2).trans (HCF.out k hk))
    rw [← HRR.out] at hgr
    have HGR := Lib.hid hgr; have HCH := Lib.hid hcellH; have HCF2 := Lib.hid hcF2
    clear hb hb2 hb3 hgr hcellH hcF2 F2 FB B1 hHc
    have hSb : ∀ k, k ≤ m → -12000000000000 ≤ sumTo (fun k => ix hs k * ix hs k * d) k ∧ sumTo (fun k => ix hs k * ix hs k * d) k ≤ 12000000000000 := fun k hk => by
      have := sumTo_bound (f := fun k => ix hs k * ix hs k * d) (B := 1280000000000) k (fun x hx => by
        have h1 := HG.out.h x (by omega)
        have := mul_abs (mul_abs h1 h1) hDb
        omega)
      have : (k : Int) ≤ 8 := by omega
      omega
    have hTb : ∀ k, k ≤ n → -30000000000000 ≤ sumTo (fun k => fitF n (gm R m) r k * r k) k ∧ sumTo (fun k => fitF n (gm R m) r k * r k) k ≤ 30000000000000 := fun k hk => by
      have := sumTo_bound (f := fun k => fitF n (gm R m) r k * r k) (B := 10240000000000) k (fun x hx => by
        have := mul_abs (HFB.out x) (HRB.out x (by omega))
        omega)
      have : (k : Int) ≤ 2 := by omega
      omega
    have HSB := Lib.hid hSb; have HTB := Lib.hid hTb
    clear hSb hTb
    go_wp2_with fail
    go_loop [11, 35] (fun s' k' => ∃ k : Nat, k ≤ m ∧ k' = .int .i64 k ∧ s' = .int .i64 (sumTo (fun k => ix hs k * ix hs k * d) k)) (fun _ k' => m - (intOf k').toNat)
    case atStart => exact ⟨0, by omega, rfl, rfl⟩
    case round =>
      obtain ⟨k, hk, rfl, rfl⟩ := hrel
      have sb := HSB.out k hk
      obtain ⟨s, hs'⟩ : ∃ s, s = sumTo (fun k => ix hs k * ix hs k * d) k := ⟨_, rfl⟩
      rw [← hs'] at sb
      rw [← hs']
      have HSS := Lib.hid hs'
      clear hs'
      by_cases hkm : k < m
      · have k0 : (0 : Int) ≤ (k : Int) := by omega
        have k1 : (k : Int) < (m : Int) := by omega
        have x0 := HCH.out k (by omega)
        have h1 := HG.out.h k hkm
        obtain ⟨h, hh⟩ : ∃ h, h = ix hs k := ⟨_, rfl⟩
        rw [← hh] at x0 h1
        have h2 := mul_abs h1 h1
        have h3 := mul_abs h2 hDb
        have p1 : IntKind.i64.wrap (h * h) = h * h := IntWalk.i64_in _ (by omega)
        have p2 : IntKind.i64.wrap (h * h * d) = h * h * d := IntWalk.i64_in _ (by omega)
        have p3 : IntKind.i64.wrap (s + h * h * d) = s + h * h * d := IntWalk.i64_in _ (by omega)
        have hnx : Hid (s + h * h * d = sumTo (fun k => ix hs k * ix hs k * d) (k + 1)) := Lib.hid (by rw [hh, HSS.out]; rfl)
        have X2 := Lib.hid h2; have X3 := Lib.hid h3
        clear hh h2 h3
        go_wp2_with fail
        go_round
        case rel => exact ⟨k + 1, by omega, by go_num, by rw [hnx.out]⟩
        case measure => simp [intOf]; omega
      · obtain rfl : k = m := by omega
        go_wp2_with fail
        go_loop [11, 50] (fun s' k' => ∃ j : Nat, j ≤ n ∧ k' = .int .i64 j ∧ s' = .int .i64 (s - sumTo (fun x => fitF n (gm R k) r x * r x) j)) (fun _ k' => n - (intOf k').toNat)
        case atStart => exact ⟨0, by omega, rfl, by simp [sumTo]⟩
        case round =>
          obtain ⟨j, hj, rfl, rfl⟩ := hrel
          have tb := HTB.out j hj
          obtain ⟨t, ht⟩ : ∃ t, t = sumTo (fun x => fitF n (gm R k) r x * r x) j := ⟨_, rfl⟩
          rw [← ht] at tb
          rw [← ht]
          have HTT := Lib.hid ht
          clear ht
          by_cases hjn : j < n
          · have j0 : (0 : Int) ≤ (j : Int) := by omega
            have j1 : (j : Int) < (n : Int) := by omega
            have j2 : (j : Int) < (cv : Int) := by omega
            have x0 := HGR.out j hjn
            have x1 := HCF2.out j hjn
            have h1 := HFB.out j
            have h2 := HRB.out j hjn
            obtain ⟨a, ha⟩ : ∃ h, h = fitF n (gm R k) r j := ⟨_, rfl⟩
            obtain ⟨b, hb⟩ : ∃ h, h = r j := ⟨_, rfl⟩
            rw [← ha] at x1 h1
            rw [← hb] at x0 h2
            have h3 := mul_abs h1 h2
            have p1 : IntKind.i64.wrap (a * b) = a * b := IntWalk.i64_in _ (by omega)
            have p2 : IntKind.i64.wrap (s - t) = s - t := IntWalk.i64_in _ (by omega)
            have p3 : IntKind.i64.wrap (s - t - a * b) = s - t - a * b := IntWalk.i64_in _ (by omega)
            have hnx : Hid (s - t - a * b = s - sumTo (fun x => fitF n (gm R k) r x * r x) (j + 1)) := Lib.hid (by
              have e : sumTo (fun x => fitF n (gm R k) r x * r x) (j + 1) = t + a * b := by rw [ha, hb, HTT.out]; rfl
              rw [e]; omega)
            have X3 := Lib.hid h3
            clear ha hb h3
            go_wp2_with fail
            go_round
            case rel => exact ⟨j + 1, by omega, by go_num, by rw [hnx.out]⟩
            case measure => simp [intOf]; omega
          · obtain rfl : j = n := by omega
            obtain ⟨z, hz⟩ : ∃ z, z = s - t := ⟨_, rfl⟩
            have hz6 : -50000000000000 ≤ z ∧ z ≤ 50000000000000 := by omega
            have hres : Hid (z = resN j (gm R k) r (ix hs) k) := Lib.hid (by rw [hz, HSS.out, HTT.out, HDD.out]; rfl)
            rw [← hz]
            clear hz
            have hg0 : Int.gcd z d ≠ 0 := fun e => HDN.out (Int.gcd_eq_zero_iff.1 e).2
            obtain ⟨q, hq⟩ : ∃ q : Nat, q = Int.gcd z d := ⟨_, rfl⟩
            rw [← hq] at hg0
            have HQ := Lib.hid hq
            clear hq
            have q1 : ((q : Int) == 0) = false := by simp; exact hg0
            have q2 : ¬ q = 0 := hg0
            have t1 := tdiv_bounds z q hz6.1 hz6.2
            have t2 := tdiv_bounds d q hDb.1 hDb.2
            have p1 : IntKind.i64.wrap (z.tdiv q) = z.tdiv q := IntWalk.i64_in _ (by omega)
            have p2 : IntKind.i64.wrap (d.tdiv q) = d.tdiv q := IntWalk.i64_in _ (by omega)
            clear hg0
            go_wp2_with fail
            refine Calls.mono (gcd_ok z d _ (by omega) (by omega) (by omega) (by omega)) ?_
            rintro e w3 ⟨rfl, hb5⟩
            rw [← HQ.out]
            have f3 := (hb5.cell (p := ⟨w1.heap.size, 1, none⟩) f2).trans f1
            have f4 : w1.heap.size < w3.heap.size := by have := hb5.size; omega
            have hb6 := hb4.trans (hb5.mono hb4.size)
            clear hb5 hb4 f0 f1
            go_wp2_with fail
            go_quiet (fail)
            go_wp2_with fail
            go_returns
            refine ⟨below_drewN hb6 _, Or.inr ⟨HNE.out, ?_⟩⟩
            rw [← hres.out, ← HDD.out, ← HQ.out]
            try rfl

end Go.Proofs.Ytmeppcoekmoofaa
