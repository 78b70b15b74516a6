/- SpreadForged, the walk: a notice with a wrong sum is not taken. -/
import Derived.Test.YtocdboopmfgkpaaDoorSpreadWorks
import Derived.Test.YtocdboopmfgkpaaDoorNoticeNumbers
namespace Go.Proofs.YtocdboopmfgkpaaDoor
open Go.RowKit
set_option linter.unusedSimpArgs false
set_option linter.unusedVariables false

def exF (j : Nat) : Nat := 0
def eyF (j : Nat) : Nat := 1
def zoneB : ByteArray := ⟨#[122, 111, 110, 101]⟩
def DF (k : Int) : NetD := ⟨⟨#[]⟩, fun _ _ => 0, 1, 2, ix [k], fun i => (adjN exF eyF i 1).length, fun i j => ((adjN exF eyF i 1)[j]?).getD 0⟩
theorem fixF (k : Int) : ∀ i, i < (DF k).n → ∀ a, a < (DF k).K → stepN (DF k) (iterN (DF k) (fun _ _ => 0) 0) i a = iterN (DF k) (fun _ _ => 0) 0 i a := by
  intro i hi a ha
  have hi' : i < 2 := hi
  match i, hi' with
  | 0, _ => rfl
  | 1, _ => rfl
theorem okF (k : Int) : NetOk (DF k) := ⟨(by decide : 1 ≤ 2), (by decide : 2 ≤ 12), (by decide : 1 ≤ 1), (by decide : 1 ≤ 8), (by decide : ∀ i, i < 2 → (adjN exF eyF i 1).length ≤ 80), (by decide : ∀ i, i < 2 → ∀ j, j < (adjN exF eyF i 1).length → ((adjN exF eyF i 1)[j]?).getD 0 < 2)⟩
theorem nokF (k : Int) (h0 : 1 ≤ k) (h1 : k ≤ 1000000000) : NewOk [k] 1 2 1 exF eyF := ⟨by decide, by decide, by decide, by decide, by decide, fun j hj => (match j, hj with | 0, _ => ⟨h0, h1⟩), by decide, by decide, by decide⟩
theorem zone_ok (n : Int) (n0 : 1 ≤ n) (n1 : n ≤ 2147483647) : NtOk 0 n zoneB 0 := ⟨by decide, by decide, n0, n1, by decide, by decide, by decide, by decide⟩

set_option maxRecDepth 100000 in
set_option maxHeartbeats 40000000 in
theorem spreadForged_walk (key0 n00 more : Int) (w : World) (ht : Tab w) :
    Calls Tryd.prog 6 #[.int .i64 key0, .int .i64 n00, .int .i64 more] w fun e w' => e = .returned (.bool true) ∧ Below w.heap.size w w' := by
  have HT := Lib.hid ht
  obtain ⟨k, hk⟩ : ∃ x, x = key0 % 1000000000 := ⟨_, rfl⟩
  obtain ⟨n, hn⟩ : ∃ x, x = n00 % 1000 := ⟨_, rfl⟩
  obtain ⟨m, hm⟩ : ∃ x, x = more % 2147483646 := ⟨_, rfl⟩
  have k0 : 0 ≤ k := by omega
  have k1 : k < 1000000000 := by omega
  have n0 : 0 ≤ n := by omega
  have n1 : n < 1000 := by omega
  have m0 : 0 ≤ m := by omega
  have m1 : m < 2147483646 := by omega
  have p1 : IntKind.i64.wrap (1 + k) = 1 + k := IntWalk.i64_in _ (by omega)
  have p2 : IntKind.i64.wrap (1 + n) = 1 + n := IntWalk.i64_in _ (by omega)
  have Hk := Lib.hid hk; have Hn := Lib.hid hn; have Hm := Lib.hid hm
  have HK := Lib.hid (zone_ok (1 + n) (by omega) (by omega))
  clear ht hk hn hm
  go_enter Tryd.func6, Tryd.ntmps6
  go_wp2_with fail
  refine Calls.mono (spreadWorks_ok _ HT.out) ?_
  rintro e w1 ⟨rfl, hb⟩
  have B1 := Lib.hid hb
  clear hb
  go_wp2_with fail
  refine Calls.mono (at_as key0 _ k _ Hk (by omega) (by omega)) ?_
  rintro e _ ⟨rfl, rfl⟩
  go_wp2_with fail
  obtain ⟨W, hW⟩ : ∃ W, W = (w1.alloc (.cells #[.int .i64 (1 + k)] 3)).alloc (.cells #[.int .i64 0, .int .i64 1] 39) := ⟨_, rfl⟩
  rw [← hW]
  have bW : Below w1.heap.size w1 W := by rw [hW]; exact ((Below.refl _ w1).alloc (Nat.le_refl _) _).alloc (by simp) _
  have hk : FlatSl W 1 (some ⟨w1.heap.size, 0, none⟩) 1 1 [1 + k] := ⟨by omega, by unfold maxLen; omega, rfl, fun _ => ⟨_, _, rfl, fun j hj => by
    match j, hj with
    | 0, _ => rw [hW]; simp [ix]⟩⟩
  have he : FlatSl W 2 (some ⟨w1.heap.size + 1, 0, none⟩) 1 1 [0, 1] := ⟨by omega, by unfold maxLen; omega, rfl, fun _ => ⟨_, _, rfl, fun j hj => by
    match j, hj with
    | 0, _ => rw [hW]; simp [ix]
    | 1, _ => rw [hW]; simp [ix]⟩⟩
  have hE : ∀ j, j < 1 → ix [0, 1] (j * 2) = (exF j : Int) ∧ ix [0, 1] (j * 2 + 1) = (eyF j : Int) := by decide
  have sW := bW.size
  have s1 := B1.out.size
  have BW := Lib.hid (B1.out.trans (bW.mono s1))
  clear hW bW
  refine Calls.mono (new_ok w1.heap.size 0 1 1 [1 + k] 2 (some ⟨w1.heap.size + 1, 0, none⟩) 1 1 [0, 1] exF eyF W hk he hE (nokF (1 + k) (by omega) (by omega)) ⟨#[]⟩ (fun _ _ => 0) (by decide)) ?_
  rintro e w2 ⟨L, rfl, hN, hb⟩
  have B2 := Lib.hid (BW.out.trans (hb.mono (by omega)))
  have HN2 := Lib.hid (show NetW (DF (1 + k)) L W.heap.size w2 (fun _ _ => 0) from hN)
  have s2 := hb.size
  clear hN hb hk he hE
  go_wp2_with fail
  refine Calls.mono (at_as n00 _ n _ Hn (by omega) (by omega)) ?_
  rintro e _ ⟨rfl, rfl⟩
  obtain ⟨M, hM⟩ : ∃ x, x = sumAll (1 + k) (ntL 0 (1 + n) zoneB) := ⟨_, rfl⟩
  have hr := sumAll_range (1 + k) (ntL 0 (1 + n) zoneB)
  rw [← hM] at hr
  obtain ⟨M0, M1⟩ := hr
  obtain ⟨M', hM'⟩ : ∃ x, x = (M + 1 + m) % 2147483647 := ⟨_, rfl⟩
  have ht := sum_turned M m M0 M1 m0 m1
  rw [← hM'] at ht
  obtain ⟨t1, t2, t3⟩ := ht
  have HMM := Lib.hid hM; have HM' := Lib.hid hM'
  clear hM hM'
  go_wp2_with fail
  refine Calls.mono (sign_ok (1 + k) 0 (1 + n) zoneB 0 _ (HT.out.below B2.out) HK.out (by omega) (by omega)) ?_
  rintro e w3 ⟨rfl, hb⟩
  rw [← HMM.out]
  have s3 := hb.size
  have hb3 := B2.out.trans (hb.mono B2.out.size)
  have HN3 := Lib.hid (HN2.out.below hb)
  have hlo0 : w.heap.size ≤ w3.heap.size := hb3.size
  have P0 := NtBox.new w3 0 (1 + n) zoneB M
  have hb4 := (Below.refl w3.heap.size w3).alloc (Nat.le_refl _) (.cells #[.int .i64 0, .int .i64 (1 + n), .string zoneB, .int .i64 M] 23)
  have HB3 := Lib.hid hb3
  clear hb hb3
  have x0 := P0.c0; have x1 := P0.c1; have x2 := P0.c2; have x3 := P0.c3; have xf0 := P0.free 0; have xf1 := P0.free 1; have xf2 := P0.free 2; have xf3 := P0.free 3; have xl := P0.lt
  have p3 : IntKind.i64.wrap (M + 1) = M + 1 := IntWalk.i64_in _ (by omega)
  have p4 : IntKind.i64.wrap (M + 1 + m) = M + 1 + m := IntWalk.i64_in _ (by omega)
  have p5 : (M + 1 + m).tmod 2147483647 = M' := by rw [HM'.out, Int.tmod_eq_emod_of_nonneg (by omega)]
  go_wp2_with fail
  obtain ⟨W4, hW4⟩ : ∃ W, W = w3.alloc (.cells #[.int .i64 0, .int .i64 (1 + n), .string zoneB, .int .i64 M] 23) := ⟨_, rfl⟩
  obtain ⟨b3, hb3⟩ : ∃ b, b = w3.heap.size := ⟨_, rfl⟩
  rw [← hW4] at P0 hb4 ⊢
  rw [← hb3] at P0 hb4 ⊢
  have hlo : w.heap.size ≤ b3 := by rw [hb3]; exact hlo0
  clear x0 xf0 x1 xf1 x2 xf2 x3 xf3 xl
  have HBE := Lib.hid hb3
  clear hW4 hb3
  have HP0 := Lib.hid P0; have Hb4 := Lib.hid hb4
  clear P0 hb4
  go_cut [] (fun wx => NtBox wx b3 0 (1 + n) zoneB M' ∧ Below b3 w3 wx)
  case first =>
    have Q0 : NtBox W4.drew b3 0 (1 + n) zoneB M := HP0.out
    have hb4 : Below b3 w3 W4.drew := Hb4.out.drew
    have x0 := Q0.c0; have x1 := Q0.c1; have x2 := Q0.c2; have x3 := Q0.c3; have xf0 := Q0.free 0; have xf1 := Q0.free 1; have xf2 := Q0.free 2; have xf3 := Q0.free 3; have xl := Q0.lt
    go_region_with (first
      | (go_at_call 9; (with_reducible refine Calls.mono (at_as more _ m _ Hm (by omega) (by omega)) ?_); rintro e _ ⟨rfl, rfl⟩))
    all_goals (go_wp2_with fail; go_meet; exact ⟨Q0.set3 M', hb4.setCell (Nat.le_refl b3) _⟩)
  case rest =>
    obtain ⟨N4, hb5⟩ := hcut
    have hb5' : Below w3.heap.size w3 wc := HBE.out ▸ hb5
    have HN5 := Lib.hid (HN3.out.below hb5')
    have B5 := Lib.hid (HB3.out.trans (hb5'.mono hlo0))
    have HT5 := Lib.hid (HT.out.below B5.out)
    have HK5 := Lib.hid (HK.out.sum t2 t3)
    have e1 : M' ≠ sumAll ((DF (1 + k)).keys 0) (ntL 0 (1 + n) zoneB) := by
      show M' ≠ sumAll (1 + k) _
      rw [← HMM.out]; exact t1
    have HE1 := Lib.hid e1
    have s5 := B5.out.size
    have s35 := hb5'.size
    clear hb5 hb5' e1
    have y0 := N4.c0; have y1 := N4.c1; have y2 := N4.c2; have y3 := N4.c3; have yf0 := N4.free 0; have yf1 := N4.free 1; have yf2 := N4.free 2; have yf3 := N4.free 3; have yl := N4.lt
    go_wp2_with fail
    refine Calls.mono (put_forged (DF (1 + k)) L W.heap.size (fun _ _ => 0) 1 0 (1 + n) M' zoneB _ HT5.out HN5.out (by decide : 1 < 2) (by decide : 0 < 1) (by decide : 1 ≤ 8) ⟨by show 1 ≤ 1 + k; omega, by show 1 + k ≤ _; omega⟩ HK5.out HE1.out) ?_
    rintro e w6 ⟨rfl, hb⟩
    have B6 := Lib.hid (B5.out.trans (hb.mono s5))
    have HN6 := Lib.hid (HN5.out.below hb)
    have s6 := hb.size
    clear y0 yf0 y1 yf1 y2 yf2 y3 yf3 yl
    clear hb N4
    go_wp2_with fail
    refine Calls.mono (held_ok HN6.out 1 0 (by decide : 1 < 2) (by decide : 0 < 1)) ?_
    rintro e w7 ⟨rfl, hb⟩
    have ev : heldV (DF (1 + k)) 0 0 = .tuple #[.agg #[.int .i64 0, .int .i64 0, .string ⟨#[]⟩, .int .i64 0], .int .i64 6] := rfl
    rw [ev]
    have B7 := Lib.hid (B6.out.trans (hb.mono B6.out.size))
    have HN7 := Lib.hid (HN6.out.below hb)
    have s7 := hb.size
    clear hb ev
    go_wp2_with fail
    have N8 := HN7.out.below ((Below.refl w7.heap.size w7).alloc (Nat.le_refl _) (.cells #[.int .i64 0, .int .i64 0, .string ⟨#[]⟩, .int .i64 0] 23))
    have B8 := B7.out.alloc B7.out.size (.cells #[.int .i64 0, .int .i64 0, .string ⟨#[]⟩, .int .i64 0] 23)
    have ob := N8.ob
    have z7 := B7.out.size
    have z8 := BW.out.size
    refine Calls.mono (settle_ok (DF (1 + k)) L W.heap.size (fun _ _ => 0) 0 _ (okF (1 + k)) N8 (by simp; omega) (by omega) (fixF (1 + k))) ?_
    rintro e w9 ⟨L9, q, hq, rfl, hf, hN, hg, _, _, _, _, _, _⟩
    obtain rfl : q = 0 := by omega
    have B9 := Lib.hid (below_then B8 (Nat.le_refl _) hg (by omega))
    clear hN hg hf hq N8 B8 ob
    go_wp2_with fail
    go_ret
    exact ⟨rfl, B9.out⟩
end Go.Proofs.YtocdboopmfgkpaaDoor
