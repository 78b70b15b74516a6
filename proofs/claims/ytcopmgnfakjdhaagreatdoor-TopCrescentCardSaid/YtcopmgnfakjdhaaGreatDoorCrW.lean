/- crescent.Seen. -/
import Derived.Test.YtcopmgnfakjdhaaGreatDoorRsWs
import Derived.Test.YtcopmgnfakjdhaaGreatDoorRsFind
namespace Go.Proofs.YtcopmgnfakjdhaaGreatDoor
open Go.RowKit
set_option linter.unusedSimpArgs false
set_option linter.unusedVariables false
theorem rsSet_ok (lon lat d : Int) (pl : PlOk lon lat) (hd : -3900000 ≤ d ∧ d ≤ 3900000) (w : World) (hT : SinT w) (hL : LimT w) : Calls Tryz.prog 14 #[.agg #[.int .i64 lon, .int .i64 lat], .int .i64 d, .int .i64 0, .bool false] w fun e w' => e = .returned (.tuple #[.agg #[.int .i64 (rsF lon lat 0 d (-1)).1, .int .i64 (rsF lon lat 0 d (-1)).2.1], .int .i64 (rsF lon lat 0 d (-1)).2.2]) ∧ Below w.heap.size w w' := by
  have F := rsFind_ok lon lat d 0 false (.inl rfl) hd pl w hT hL
  rw [show (if false = true then (1 : Int) else -1) = -1 from rfl] at F
  exact F
set_option maxRecDepth 100000 in
set_option maxHeartbeats 8000000 in
theorem Seen_ok (lon lat d : Int) (pl : PlOk lon lat) (hd : -3900000 ≤ d ∧ d ≤ 3900000) (w : World) (hT : SinT w) (hL : LimT w) : Calls Tryz.prog 18 #[.agg #[.int .i64 lon, .int .i64 lat], .int .i64 d] w fun e w' => e = .returned (.tuple #[.int .i64 (seN lon lat d), .int .i64 (seE lon lat d)]) ∧ Below w.heap.size w w' := by
  have F := Lib.hid (fun W (hT : SinT W) (hL : LimT W) => rsSet_ok lon lat d pl hd W hT hL)
  have BD := rsF_bd lon lat 0 d (-1)
  have E3 := rfL_e (fun t => (-1) * abF lon lat 0 t) (d * 86400000) 97 0 false 0 0
  rw [show rfL (fun t => (-1) * abF lon lat 0 t) (d * 86400000) 97 0 false 0 0 = rsF lon lat 0 d (-1) from rfl] at E3
  obtain ⟨n, hn⟩ : ∃ n, n = seN lon lat d := ⟨_, rfl⟩
  obtain ⟨g, hg⟩ : ∃ g, g = seE lon lat d := ⟨_, rfl⟩
  have HN : Hid (n = if (rsF lon lat 0 d (-1)).2.2 = 0 ∧ crS lon lat (rsF lon lat 0 d (-1)).1 = 1 ∧ crS lon lat (rsF lon lat 0 d (-1)).2.1 = 1 then 1 else 0) := Lib.hid (by rw [hn]; rfl)
  have HG : Hid (g = if (rsF lon lat 0 d (-1)).2.2 = 0 then
    (if crS lon lat (rsF lon lat 0 d (-1)).1 = 1 ∧ crS lon lat (rsF lon lat 0 d (-1)).2.1 = 1 then 0 else if crS lon lat (rsF lon lat 0 d (-1)).1 = -1 ∧ crS lon lat (rsF lon lat 0 d (-1)).2.1 = -1 then 0 else 11)
  else (rsF lon lat 0 d (-1)).2.2) := Lib.hid (by rw [hg]; rfl)
  rw [← hn, ← hg]
  generalize (rsF lon lat 0 d (-1)).1 = r1 at *
  generalize (rsF lon lat 0 d (-1)).2.1 = r2 at *
  generalize (rsF lon lat 0 d (-1)).2.2 = er at *
  have A := Lib.hid (fun (h : er = 0) x (hx : x = r1 ∨ x = r2) V (hb : Below w.heap.size w V) => crSide_ok lon lat x pl (by have := BD h; unfold instOk dayOk; exact decide_eq_true (by omega)) V (hT.below hb))
  have Q1 := crS_3 lon lat r1
  have Q2 := crS_3 lon lat r2
  generalize crS lon lat = c at *
  obtain ⟨c1, hc1⟩ : ∃ y, y = c r1 := ⟨_, rfl⟩
  obtain ⟨c2, hc2⟩ : ∃ y, y = c r2 := ⟨_, rfl⟩
  rw [← hc1] at HN HG Q1
  rw [← hc2] at HN HG Q2
  have HC := Lib.hid (And.intro hc1 hc2)
  clear hc1 hc2
  have HT := Lib.hid hT
  have HL := Lib.hid hL
  clear hT hL pl hn hg BD hd
  have P1 := PlBox.new w lon lat
  have HB0 := (Below.refl w.heap.size w).alloc (Nat.le_refl _) (.cells #[.int .i64 lon, .int .i64 lat] 23)
  obtain ⟨k0, hk0⟩ : ∃ x, x = w.heap.size := ⟨_, rfl⟩
  rw [← hk0] at P1
  have HB := Lib.hid (Below.refl w.heap.size w)
  clear HB
  go_enter Tryz.func18, Tryz.ntmps18
  go_upto_region 1 with fail
  rw [← hk0]
  obtain ⟨X0, hX0⟩ : ∃ X, X = w.alloc (.cells #[.int .i64 lon, .int .i64 lat] 23) := ⟨_, rfl⟩
  rw [← hX0] at P1 HB0 ⊢
  have HB := Lib.hid HB0
  have s1 := Lib.hid P1
  clear hX0 P1 HB0 hk0
  have p0 := s1.out.c0; have p1 := s1.out.c1; have pz := s1.out.lt
  rcases E3 with rfl | ⟨E3, rfl, rfl⟩
  case inr =>
    have n0 : n = 0 := by have := HN.out; rw [if_neg (by omega)] at this; exact this
    have g0 : g = er := by have := HG.out; rw [if_neg (by omega)] at this; exact this
    subst n0 g0
    clear HN HG A HC Q1 Q2
    rcases E3 with rfl | rfl
    all_goals
      go_wp2_with fail
      refine Calls.mono (F.out _ (HT.out.below HB.out) (HL.out.below HB.out)) ?_
      rintro e v1 ⟨rfl, hb⟩
      have V := HB.out.trans (hb.mono HB.out.size)
      have W3 := Lib.hid (V.alloc V.size (.cells #[.int .i64 0, .int .i64 0] 28))
      clear V hb p0 p1 pz s1
      go_wp2_with fail
      go_ret2
      exact ⟨rfl, W3.out⟩
  case inl =>
    have AA := Lib.hid (A.out rfl)
    clear A
    have HN : Hid (n = if c1 = 1 ∧ c2 = 1 then 1 else 0) := Lib.hid (by have := HN.out; simpa using this)
    have HG : Hid (g = if c1 = 1 ∧ c2 = 1 then 0 else if c1 = -1 ∧ c2 = -1 then 0 else 11) := Lib.hid (by have := HG.out; simpa using this)
    go_wp2_with fail
    refine Calls.mono (F.out _ (HT.out.below HB.out) (HL.out.below HB.out)) ?_
    rintro e wn2 ⟨rfl, hb⟩
    replace s1 := Lib.hid ((s1.out.below hb).alloc (.cells #[.int .i64 (r1), .int .i64 (r2)] 28))
    have HB2 := HB.out.trans (hb.mono HB.out.size)
    clear hb
    have Hkl2 := Lib.hid HB2.size; replace HB := Lib.hid (HB2.alloc HB2.size (.cells #[.int .i64 (r1), .int .i64 (r2)] 28))
    clear HB2
    have s2 := Lib.hid (SpBox.new wn2 (r1) (r2))
    obtain ⟨k2, hk2⟩ : ∃ x, x = wn2.heap.size := ⟨_, rfl⟩
    rw [← hk2] at s2 Hkl2
    go_upto_region 2 with fail
    rw [← hk2]
    obtain ⟨X2, hX2⟩ : ∃ X, X = wn2.alloc (.cells #[.int .i64 (r1), .int .i64 (r2)] 28) := ⟨_, rfl⟩
    rw [← hX2] at s1 s2 HB ⊢
    clear hk2 hX2
    clear p0 p1 pz
    go_upto_region 4 with fail
    go_cut [8, 9] (fun sv sw wx => sv = .int .i64 c1 ∧ sw = .int .i64 c2 ∧ Hid (Below w.heap.size w wx))
    case first =>
      obtain ⟨Q, hQ⟩ : ∃ Q, Q = (X2).drew := ⟨_, rfl⟩
      have xQ0 : Q.cell? ⟨k0, 0, none⟩ = some (.int .i64 lon) := by rw [hQ]; exact (s1.out.drew.c0)
      have xQ1 : Q.cell? ⟨k0, 1, none⟩ = some (.int .i64 lat) := by rw [hQ]; exact (s1.out.drew.c1)
      have xQ2 : Q.cell? ⟨k2, 0, none⟩ = some (.int .i64 r1) := by rw [hQ]; exact (s2.out.drew.c0)
      have xQ3 : Q.cell? ⟨k2, 1, none⟩ = some (.int .i64 r2) := by rw [hQ]; exact (s2.out.drew.c1)
      have lQ0 : k0 < Q.heap.size := by rw [hQ]; exact (s1.out.lt)
      have lQ1 : k2 < Q.heap.size := by rw [hQ]; exact (s2.out.lt)
      have bQ : Below w.heap.size w Q := by rw [hQ]; exact (HB.out).drew
      have HxQ0 := Lib.hid xQ0
      have HxQ1 := Lib.hid xQ1
      have HxQ2 := Lib.hid xQ2
      have HxQ3 := Lib.hid xQ3
      have HlQ0 := Lib.hid lQ0
      have HlQ1 := Lib.hid lQ1
      have HbQ := Lib.hid bQ
      have HhQ := Lib.hid hQ
      clear xQ0 xQ1 xQ2 xQ3 lQ0 lQ1 bQ hQ
      go_region_held3 (fun w' => w'.cell? ⟨k0, 0, none⟩ = some (.int .i64 lon) ∧ w'.cell? ⟨k0, 1, none⟩ = some (.int .i64 lat) ∧ w'.cell? ⟨k2, 0, none⟩ = some (.int .i64 r1) ∧ w'.cell? ⟨k2, 1, none⟩ = some (.int .i64 r2) ∧ Below Q.heap.size Q w')
        (((try dsimp only); repeat' apply And.intro) <;> (first | (with_reducible assumption) | (go_split_ands; (with_reducible assumption)) | (rw [← HhQ.out]; (first | exact Below.refl _ _ | exact HxQ0.out | exact HxQ1.out | exact HxQ2.out | exact HxQ3.out)) | go_keep))
        (first
          | ((try go_split_ands); go_at_call 46; refine Calls.mono (AA.out _ (by first | exact .inl rfl | exact .inr rfl) _ (bX_back HbQ.out (by first | exact Below.refl _ _ | with_reducible assumption))) ?_; rintro e wq ⟨rfl, hb⟩; (try go_split_ands); have qB : Below Q.heap.size Q wq := (bX_more (by with_reducible assumption) hb); have m0 := bX_oldc qB HlQ0.out HxQ0.out; have m1 := bX_oldc qB HlQ0.out HxQ1.out; have m2 := bX_oldc qB HlQ1.out HxQ2.out; have m3 := bX_oldc qB HlQ1.out HxQ3.out; clear hb))
      all_goals (go_wp2_with fail; go_meet; (try go_split_ands); exact ⟨by rw [HC.out.1], by rw [HC.out.2], Lib.hid (bX_back HbQ.out (by first | exact Below.refl _ _ | with_reducible assumption))⟩)
    case rest =>
      obtain ⟨rfl, rfl, HB⟩ := hcut
      rcases Q1 with rfl | rfl | rfl
      all_goals
        rcases Q2 with rfl | rfl | rfl
        all_goals
          obtain rfl := HN.out
          obtain rfl := HG.out
          go_wp2_with fail
          go_ret2
          exact ⟨rfl, HB.out⟩
end Go.Proofs.YtcopmgnfakjdhaaGreatDoor
