/- The contracts of package notice. -/
import Derived.Test.YtocdboopmfgkpaaDoorNBase
import Derived.Test.YtocdboopmfgkpaaDoorNoticePlain
import Derived.Deep.QuietTactic
import Derived.Deep.OwnRows
import Derived.BigQuiet
import Derived.Deep.RegionHeld3
import Derived.Deep.RegionWith
import Derived.StillTailTactics
namespace Go.Proofs.YtocdboopmfgkpaaDoor
open Go.RowKit
set_option linter.unusedSimpArgs false
set_option linter.unusedVariables false

def ntF (a n : Int) (s : ByteArray) (m : Int) : Nat → Value := fun i => if i = 0 then .int .i64 a else if i = 1 then .int .i64 n else if i = 2 then .string s else .int .i64 m
/-- Block b holds a notice, and may be written. -/
def NtBox (w : World) (b : Nat) (a n : Int) (s : ByteArray) (m : Int) : Prop := w.rowIs b 23 4 (ntF a n s m)
section
variable {w w' : World} {b : Nat} {a n : Int} {s : ByteArray} {m : Int}
theorem NtBox.c0 (h : NtBox w b a n s m) : w.cell? ⟨b, 0, none⟩ = some (.int .i64 a) := World.rowIs.cell h (i := 0) (by omega)
theorem NtBox.c1 (h : NtBox w b a n s m) : w.cell? ⟨b, 1, none⟩ = some (.int .i64 n) := World.rowIs.cell h (i := 1) (by omega)
theorem NtBox.c2 (h : NtBox w b a n s m) : w.cell? ⟨b, 2, none⟩ = some (.string s) := World.rowIs.cell h (i := 2) (by omega)
theorem NtBox.c3 (h : NtBox w b a n s m) : w.cell? ⟨b, 3, none⟩ = some (.int .i64 m) := World.rowIs.cell h (i := 3) (by omega)
theorem NtBox.free (h : NtBox w b a n s m) (i : Nat) : w.frozen? ⟨b, i, none⟩ = false := World.rowIs.frozen h i
theorem NtBox.lt (h : NtBox w b a n s m) : b < w.heap.size := World.rowIs.lt h
theorem NtBox.alloc (h : NtBox w b a n s m) (o : Obj) : NtBox (w.alloc o) b a n s m := World.rowIs.alloc h o
theorem NtBox.below (h : NtBox w b a n s m) (hb : Below w.heap.size w w') : NtBox w' b a n s m := World.rowIs.of_block h (hb.block b (World.rowIs.lt h))
theorem NtBox.new (w : World) (a n : Int) (s : ByteArray) (m : Int) : NtBox (w.alloc (.cells #[.int .i64 a, .int .i64 n, .string s, .int .i64 m] 23)) w.heap.size a n s m :=
  World.rowIs_alloc w #[.int .i64 a, .int .i64 n, .string s, .int .i64 m] 23 (ntF a n s m) (fun i hi => by
    match i, hi with
    | 0, _ => rfl
    | 1, _ => rfl
    | 2, _ => rfl
    | 3, _ => rfl)
theorem NtBox.other (h : NtBox w b a n s m) {p : Addr} (hp : b ≠ p.block) (v : Value) : NtBox (w.setCell p v) b a n s m := World.rowIs.setOther h hp v
theorem NtBox.set3 (h : NtBox w b a n s m) (m' : Int) : NtBox (w.setCell ⟨b, 3, none⟩ (.int .i64 m')) b a n s m' :=
  (World.rowIs.set h 3 (.int .i64 m')).congr (fun i hi => by
    match i, hi with
    | 0, _ => rfl
    | 1, _ => rfl
    | 2, _ => rfl
    | 3, _ => rfl)
theorem NtBox.set2 (h : NtBox w b a n s m) (s' : ByteArray) : NtBox (w.setCell ⟨b, 2, none⟩ (.string s')) b a n s' m :=
  (World.rowIs.set h 2 (.string s')).congr (fun i hi => by
    match i, hi with
    | 0, _ => rfl
    | 1, _ => rfl
    | 2, _ => rfl
    | 3, _ => rfl)
theorem NtBox.set (h : NtBox w b a n s m) (a' n' : Int) (s' : ByteArray) (m' : Int) : NtBox ((((w.setCell ⟨b, 0, none⟩ (.int .i64 a')).setCell ⟨b, 1, none⟩ (.int .i64 n')).setCell ⟨b, 2, none⟩ (.string s')).setCell ⟨b, 3, none⟩ (.int .i64 m')) b a' n' s' m' :=
  ((((World.rowIs.set h 0 (.int .i64 a')).set 1 (.int .i64 n')).set 2 (.string s')).set 3 (.int .i64 m')).congr (fun i hi => by
    match i, hi with
    | 0, _ => rfl
    | 1, _ => rfl
    | 2, _ => rfl
    | 3, _ => rfl)
end
theorem take_snoc (s : ByteArray) (k : Nat) (h : k < s.size) : s.data.toList.take (k + 1) = s.data.toList.take k ++ [s[k]] := by
  rw [List.take_succ_eq_append_getElem (by simpa using h)]; rfl
/-- A notice, as a value. -/
def ntV (a n : Int) (s : ByteArray) (m : Int) : Value := .agg #[.int .i64 a, .int .i64 n, .string s, .int .i64 m]
/-- What is summed. -/
def ntL (a n : Int) (s : ByteArray) : List UInt8 := Lib.itoa a ++ [32] ++ Lib.itoa n ++ [32] ++ s.data.toList

set_option maxRecDepth 100000 in
set_option maxHeartbeats 4000000 in
theorem sum_ok (key a n : Int) (s : ByteArray) (m : Int) (w : World) (h : Tab w) (k0 : 0 ≤ key) (k1 : key < 2147483647) (a0 : 0 ≤ a) (a1 : a < 8) (n0 : 0 ≤ n) (n1 : n ≤ 2147483647) (hs : s.size ≤ 200) :
    Calls Tryd.prog 24 #[.int .i64 key, .agg #[.int .i64 a, .int .i64 n, .string s, .int .i64 m]] w fun e w' => e = .returned (.int .i64 (sumAll key (ntL a n s))) ∧ Below w.heap.size w w' := by
  obtain ⟨sA, hA⟩ : ∃ x, x = (⟨(Lib.itoa a).toArray⟩ : ByteArray) := ⟨_, rfl⟩
  obtain ⟨sB, hB⟩ : ∃ x, x = (⟨(Lib.itoa n).toArray⟩ : ByteArray) := ⟨_, rfl⟩
  have lA : sA.size ≤ 21 := by rw [hA]; exact itoa_size a (by omega) (by omega)
  have lB : sB.size ≤ 21 := by rw [hB]; exact itoa_size n (by omega) (by omega)
  obtain ⟨s1, h1⟩ : ∃ x, x = sA ++ (⟨#[32]⟩ : ByteArray) := ⟨_, rfl⟩
  obtain ⟨s2, h2⟩ : ∃ x, x = s1 ++ sB := ⟨_, rfl⟩
  obtain ⟨s3, h3⟩ : ∃ x, x = s2 ++ (⟨#[32]⟩ : ByteArray) := ⟨_, rfl⟩
  obtain ⟨s4, h4⟩ : ∃ x, x = s3 ++ s := ⟨_, rfl⟩
  have l1 : s1.size = sA.size + 1 := cat_size h1
  have l2 := cat_size h2
  have l3 : s3.size = s2.size + 1 := cat_size h3
  have l4 := cat_size h4
  have c1 := cat_run Tryd.prog _ _ _ h1 (by show sA.size + 1 ≤ _; omega)
  have c2 := cat_run Tryd.prog _ _ _ h2 (by omega)
  have c3 := cat_run Tryd.prog _ _ _ h3 (by show s2.size + 1 ≤ _; omega)
  have c4 := cat_run Tryd.prog _ _ _ h4 (by omega)
  have hL : s4.data.toList = ntL a n s := by
    rw [cat_list h4, cat_list h3, cat_list h2, cat_list h1, hA, hB]
    simp [ntL]
  have l5 : s4.size ≤ 400 := by omega
  have HA := Lib.hid hA; have HB := Lib.hid hB; have HL := Lib.hid hL; have HT := Lib.hid h
  clear h hA hB hL h1 h2 h3 h4 l1 l2 l3 l4 lA lB
  go_enter Tryd.func24, Tryd.ntmps24
  go_wp2_with fail
  have b1 : Below w.heap.size w (w.alloc (.cells #[.int .i64 a, .int .i64 n, .string s, .int .i64 m] 23)) := (Below.refl _ _).alloc (Nat.le_refl _) _
  have HTX := Lib.hid ((HT.out.below b1).drew)
  obtain ⟨X, hX⟩ : ∃ X, X = (w.alloc (.cells #[.int .i64 a, .int .i64 n, .string s, .int .i64 m] 23)).drew := ⟨_, rfl⟩
  rw [← hX] at HTX
  have x0 : X.cell? ⟨w.heap.size, 0, none⟩ = some (.int .i64 a) := by rw [hX]; simp [go_sem]
  have x1 : X.cell? ⟨w.heap.size, 1, none⟩ = some (.int .i64 n) := by rw [hX]; simp [go_sem]
  have x2 : X.cell? ⟨w.heap.size, 2, none⟩ = some (.string s) := by rw [hX]; simp [go_sem]
  have lX : w.heap.size < X.heap.size := by rw [hX]; simp
  have bX : Below w.heap.size w X := by rw [hX]; exact b1.drew
  have H0 := Lib.hid x0; have H1 := Lib.hid x1; have H2 := Lib.hid x2; have HX := Lib.hid hX; have HlX := Lib.hid lX; have HbX := Lib.hid bX
  clear x0 x1 x2 lX bX hX b1
  go_region_held3 (fun w' => w'.cell? ⟨w.heap.size, 0, none⟩ = some (.int .i64 a) ∧ w'.cell? ⟨w.heap.size, 1, none⟩ = some (.int .i64 n) ∧ w'.cell? ⟨w.heap.size, 2, none⟩ = some (.string s) ∧ Below X.heap.size X w')
    (((try dsimp only); repeat' apply And.intro) <;> (first | (with_reducible assumption) | (go_split_ands; (with_reducible assumption)) | (rw [← HX.out]; (first | exact Below.refl _ _ | exact H0.out | exact H1.out | exact H2.out)) | go_keep))
    (first
      | ((try go_split_ands); go_at_call 36; refine Calls.mono (itoa_as a sA HA (by omega) (by omega) _ (HTX.out.below (by with_reducible assumption))) ?_; rintro e wq ⟨rfl, hb⟩; (try go_split_ands); have qB : Below X.heap.size X wq := (bX_more (by with_reducible assumption) hb); have m0 := bX_oldc qB HlX.out H0.out; have m1 := bX_oldc qB HlX.out H1.out; have m2 := bX_oldc qB HlX.out H2.out; clear hb)
      | ((try go_split_ands); go_at_call 36; refine Calls.mono (itoa_as n sB HB (by omega) (by omega) _ (HTX.out.below (by with_reducible assumption))) ?_; rintro e wq ⟨rfl, hb⟩; (try go_split_ands); have qB : Below X.heap.size X wq := (bX_more (by with_reducible assumption) hb); have m0 := bX_oldc qB HlX.out H0.out; have m1 := bX_oldc qB HlX.out H1.out; have m2 := bX_oldc qB HlX.out H2.out; clear hb))
  all_goals
    have hbq : Below w.heap.size w wq := bX_back HbX.out qB
    clear qB m0 m1 m2 c1 c2 c3 c4
    go_wp2_with fail
    go_loop [6, 23] (fun h' i' => ∃ k : Nat, k ≤ s4.size ∧ i' = .int .i64 k ∧ h' = .int .i64 (sumBytes key (s4.data.toList.take k))) (fun _ i' => s4.size - (intOf i').toNat)
    case atStart => exact ⟨0, Nat.zero_le _, rfl, rfl⟩
    case round =>
      obtain ⟨k, hk, rfl, rfl⟩ := hrel
      obtain ⟨y, hy⟩ : ∃ y, y = sumBytes key (s4.data.toList.take k) := ⟨_, rfl⟩
      have hr := sumBytes_range key (s4.data.toList.take k) k0 k1
      rw [← hy] at hr
      rw [← hy]
      obtain ⟨y0, y1⟩ := hr
      have HY := Lib.hid hy
      clear hy
      by_cases hlt : k < s4.size
      · have HS : Hid (sumBytes key (s4.data.toList.take (k + 1)) = (y * 257 + (s4[k].toNat : Int) + 1) % 2147483647) := Lib.hid (by
          rw [take_snoc s4 k hlt, sumBytes_snoc, ← HY.out]; rfl)
        have hb0 : (0 : Int) ≤ (s4[k].toNat : Int) := by omega
        have hb1 : (s4[k].toNat : Int) < 256 := byte_lt _
        have k2 : (0 : Int) ≤ (k : Int) := by omega
        have k3 : (k : Int) < (s4.size : Int) := by omega
        go_wp2_with fail
        go_round
        case rel => exact ⟨k + 1, by omega, by go_num, by rw [HS.out]⟩
        case measure => simp [intOf]; omega
      · obtain rfl : k = s4.size := by omega
        go_wp2_with fail
        go_ret
        refine ⟨ret_int ?_, hbq⟩
        unfold sumAll
        rw [← HL.out, HY.out, List.take_of_length_le (by simp)]

/-- A notice that Check takes. -/
structure NtOk (a n : Int) (s : ByteArray) (m : Int) : Prop where
  a0 : 0 ≤ a
  a1 : a < 8
  n0 : 1 ≤ n
  n1 : n ≤ 2147483647
  m0 : 0 ≤ m
  m1 : m < 2147483647
  s0 : s.size ≤ 200
  st : ∀ b, b ∈ s.data.toList → 32 ≤ b.toNat ∧ b.toNat ≤ 126
theorem NtOk.sum {a n m m' : Int} {s : ByteArray} (h : NtOk a n s m) (h0 : 0 ≤ m') (h1 : m' < 2147483647) : NtOk a n s m' := ⟨h.a0, h.a1, h.n0, h.n1, h0, h1, h.s0, h.st⟩
theorem mem_at (s : ByteArray) (k : Nat) (h : k < s.size) : s[k] ∈ s.data.toList := by
  rw [show s[k] = s.data.toList[k]'(by simpa using h) from rfl]
  exact List.getElem_mem _

set_option maxRecDepth 100000 in
set_option maxHeartbeats 4000000 in
theorem check_ok (a n : Int) (s : ByteArray) (m : Int) (w : World) (h : NtOk a n s m) :
    Calls Tryd.prog 22 #[.agg #[.int .i64 a, .int .i64 n, .string s, .int .i64 m]] w fun e w' => e = .returned (.int .i64 0) ∧ Below w.heap.size w w' := by
  have a0 := h.a0; have a1 := h.a1; have n0 := h.n0; have n1 := h.n1; have m0 := h.m0; have m1 := h.m1; have s0 := h.s0
  have HK := Lib.hid h
  have a2 : ¬ a < 0 := by omega
  have n2 : ¬ n < 1 := by omega
  have m2 : ¬ m < 0 := by omega
  have s1 : ¬ (200 : Int) < (s.size : Int) := by omega
  clear h
  go_enter Tryd.func22, Tryd.ntmps22
  go_wp2_with fail
  go_loop [39] (fun i' => ∃ k : Nat, k ≤ s.size ∧ i' = .int .i64 k) (fun i' => s.size - (intOf i').toNat)
  case atStart => exact ⟨0, Nat.zero_le _, rfl⟩
  case round =>
    obtain ⟨k, hk, rfl⟩ := hrel
    by_cases hlt : k < s.size
    · have k2 : (0 : Int) ≤ (k : Int) := by omega
      have k3 : (k : Int) < (s.size : Int) := by omega
      obtain ⟨b0, b1⟩ := HK.out.st _ (mem_at s k hlt)
      have b2 : ¬ (s[k].toNat : Int) < 32 := by omega
      have b3 : ¬ (126 : Int) < (s[k].toNat : Int) := by omega
      clear b0 b1
      go_wp2_with fail
      go_round
      case rel => exact ⟨k + 1, by omega, by go_num⟩
      case measure => simp [intOf]; omega
    · obtain rfl : k = s.size := by omega
      go_wp2_with fail
      go_ret
      exact ⟨rfl, (by repeat' (first | (with_reducible refine below_drewN ?_ _) | go_grown))⟩

set_option maxHeartbeats 1000000 in
theorem isKey_ok (key : Int) (w : World) (k0 : 1 ≤ key) (k1 : key ≤ 1000000000) : Calls Tryd.prog 23 #[.int .i64 key] w fun e w' => e = .returned (.bool true) ∧ w = w' := by
  go_enter Tryd.func23, Tryd.ntmps23
  go_wp2_with fail
  go_ret
  exact ⟨rfl, rfl⟩

set_option maxRecDepth 100000 in
set_option maxHeartbeats 4000000 in
theorem sign_ok (key a n : Int) (s : ByteArray) (m : Int) (w : World) (ht : Tab w) (h : NtOk a n s 0) (k0 : 1 ≤ key) (k1 : key ≤ 1000000000) :
    Calls Tryd.prog 11 #[.int .i64 key, .agg #[.int .i64 a, .int .i64 n, .string s, .int .i64 m]] w fun e w' => e = .returned (.tuple #[.agg #[.int .i64 a, .int .i64 n, .string s, .int .i64 (sumAll key (ntL a n s))], .int .i64 0]) ∧ Below w.heap.size w w' := by
  have HK := Lib.hid h; have HT := Lib.hid ht
  clear h ht
  go_enter Tryd.func11, Tryd.ntmps11
  go_wp2_with fail
  refine Calls.mono (check_ok _ _ _ _ _ HK.out) ?_
  rintro e w1 ⟨rfl, hb⟩
  have N0 := ((NtBox.new w a n s 0).alloc (.cells #[.int .i64 0, .int .i64 0, .string ⟨#[]⟩, .int .i64 0] 23)).below hb
  have N1 := (NtBox.new (w.alloc (.cells #[.int .i64 a, .int .i64 n, .string s, .int .i64 0] 23)) 0 0 ⟨#[]⟩ 0).below hb
  have e1 : (w.alloc (.cells #[.int .i64 a, .int .i64 n, .string s, .int .i64 0] 23)).heap.size = w.heap.size + 1 := by simp
  rw [e1] at N1
  clear e1
  have b0 := (((Below.refl w.heap.size w).alloc (Nat.le_refl _) (.cells #[.int .i64 a, .int .i64 n, .string s, .int .i64 0] 23)).alloc (by simp) (.cells #[.int .i64 0, .int .i64 0, .string ⟨#[]⟩, .int .i64 0] 23))
  have hb1 := b0.trans (hb.mono b0.size)
  have HT1 := Lib.hid (HT.out.below hb1)
  clear hb b0
  have x0 := N0.c0; have x1 := N0.c1; have x2 := N0.c2; have x3 := N0.c3; have xf0 := N0.free 0; have xf1 := N0.free 1; have xf2 := N0.free 2; have xf3 := N0.free 3; have xl := N0.lt
  have y0 := N1.c0; have y1 := N1.c1; have y2 := N1.c2; have y3 := N1.c3; have yf0 := N1.free 0; have yf1 := N1.free 1; have yf2 := N1.free 2; have yf3 := N1.free 3; have yl := N1.lt
  go_wp2_with fail
  refine Calls.mono (isKey_ok _ _ (by omega) (by omega)) ?_
  rintro e _ ⟨rfl, rfl⟩
  have n0 := HK.out.n0; have n1 := HK.out.n1; have a0 := HK.out.a0; have a1 := HK.out.a1; have s0 := HK.out.s0
  have hs1 := hb1.size
  go_wp2_with fail
  refine Calls.mono (sum_ok key a n s 0 _ HT1.out (by omega) (by omega) (by omega) (by omega) (by omega) (by omega) (by omega)) ?_
  rintro e w2 ⟨rfl, hb⟩
  clear x0 xf0 x1 xf1 x2 xf2 x3 xf3 xl
  clear y0 yf0 y1 yf1 y2 yf2 y3 yf3 yl
  have M0 := N0.below hb
  have M1 := N1.below hb
  have hb2 := hb1.trans (hb.mono hs1)
  obtain ⟨M, hM⟩ : ∃ x, x = sumAll key (ntL a n s) := ⟨_, rfl⟩
  rw [← hM]
  have HM := Lib.hid hM
  clear hM N0 N1 hb hb1
  have x0 := M0.c0; have x1 := M0.c1; have x2 := M0.c2; have x3 := M0.c3; have xf0 := M0.free 0; have xf1 := M0.free 1; have xf2 := M0.free 2; have xf3 := M0.free 3; have xl := M0.lt
  have y0 := M1.c0; have y1 := M1.c1; have y2 := M1.c2; have y3 := M1.c3; have yf0 := M1.free 0; have yf1 := M1.free 1; have yf2 := M1.free 2; have yf3 := M1.free 3; have yl := M1.lt
  go_wp2_with fail
  refine bodyPost_ret (v := .tuple #[.agg #[.int .i64 a, .int .i64 n, .string s, .int .i64 M], .int .i64 0]) ?_ rfl ⟨by rw [HM.out], (by repeat' (first | (with_reducible refine below_drewN ?_ _) | go_grown))⟩
  simp [results, Tryd.results11, go_sem, *]

set_option maxRecDepth 100000 in
set_option maxHeartbeats 4000000 in
theorem right_ok (key a n : Int) (s : ByteArray) (m : Int) (w : World) (ht : Tab w) (h : NtOk a n s m) (k0 : 1 ≤ key) (k1 : key ≤ 1000000000) :
    Calls Tryd.prog 12 #[.int .i64 key, .agg #[.int .i64 a, .int .i64 n, .string s, .int .i64 m]] w fun e w' => e = .returned (.tuple #[.bool (m == sumAll key (ntL a n s)), .int .i64 0]) ∧ Below w.heap.size w w' := by
  have HK := Lib.hid h; have HT := Lib.hid ht
  clear h ht
  go_enter Tryd.func12, Tryd.ntmps12
  go_wp2_with fail
  refine Calls.mono (check_ok _ _ _ _ _ HK.out) ?_
  rintro e w1 ⟨rfl, hb⟩
  have N0 := (NtBox.new w a n s m).below hb
  have b0 := (Below.refl w.heap.size w).alloc (Nat.le_refl _) (.cells #[.int .i64 a, .int .i64 n, .string s, .int .i64 m] 23)
  have hb1 := b0.trans (hb.mono b0.size)
  have HTX := Lib.hid ((HT.out.below hb1).drew)
  clear hb b0
  go_wp2_with fail
  refine Calls.mono (isKey_ok _ _ (by omega) (by omega)) ?_
  rintro e _ ⟨rfl, rfl⟩
  have n0 := HK.out.n0; have n1 := HK.out.n1; have a0 := HK.out.a0; have a1 := HK.out.a1; have s0 := HK.out.s0
  go_wp2_with fail
  obtain ⟨M, hM⟩ : ∃ x, x = sumAll key (ntL a n s) := ⟨_, rfl⟩
  have cs : ∀ W, Tab W → Calls Tryd.prog 24 #[.int .i64 key, .agg #[.int .i64 a, .int .i64 n, .string s, .int .i64 m]] W fun e w' => e = .returned (.int .i64 M) ∧ Below W.heap.size W w' := fun W hW => by rw [hM]; exact sum_ok key a n s m W hW (by omega) (by omega) (by omega) (by omega) (by omega) (by omega) (by omega)
  have HCS := Lib.hid cs
  have HM := Lib.hid hM
  clear hM cs
  obtain ⟨b, hbn⟩ : ∃ b, b = w.heap.size := ⟨_, rfl⟩
  rw [← hbn] at N0 ⊢
  have HB := Lib.hid hbn
  clear hbn
  have HN := Lib.hid N0
  have x0 := N0.c0; have x1 := N0.c1; have x2 := N0.c2; have x3 := N0.c3; have xf0 := N0.free 0; have xf1 := N0.free 1; have xf2 := N0.free 2; have xf3 := N0.free 3; have xl := N0.lt
  clear N0
  obtain ⟨X, hX⟩ : ∃ X, X = (w1).drew := ⟨_, rfl⟩
  have xX0 : X.cell? ⟨b, 0, none⟩ = some (.int .i64 a) := by rw [hX]; simp [go_sem, *]
  have xX1 : X.cell? ⟨b, 1, none⟩ = some (.int .i64 n) := by rw [hX]; simp [go_sem, *]
  have xX2 : X.cell? ⟨b, 2, none⟩ = some (.string s) := by rw [hX]; simp [go_sem, *]
  have xX3 : X.cell? ⟨b, 3, none⟩ = some (.int .i64 m) := by rw [hX]; simp [go_sem, *]
  have lX0 : b < X.heap.size := by rw [hX]; simp; (try omega)
  have bX : Below w.heap.size w X := by rw [hX]; exact (by repeat' (first | (with_reducible refine below_drewN ?_ _) | go_grown))
  have HxX0 := Lib.hid xX0
  have HxX1 := Lib.hid xX1
  have HxX2 := Lib.hid xX2
  have HxX3 := Lib.hid xX3
  have HlX0 := Lib.hid lX0
  have HbX := Lib.hid bX
  have HhX := Lib.hid hX
  clear xX0 xX1 xX2 xX3 lX0 bX hX
  go_region_held3 (fun w' => w'.cell? ⟨b, 0, none⟩ = some (.int .i64 a) ∧ w'.cell? ⟨b, 1, none⟩ = some (.int .i64 n) ∧ w'.cell? ⟨b, 2, none⟩ = some (.string s) ∧ w'.cell? ⟨b, 3, none⟩ = some (.int .i64 m) ∧ Below X.heap.size X w')
    (((try dsimp only); repeat' apply And.intro) <;> (first | (with_reducible assumption) | (go_split_ands; (with_reducible assumption)) | (rw [← HhX.out]; (first | exact Below.refl _ _ | exact HxX0.out | exact HxX1.out | exact HxX2.out | exact HxX3.out)) | go_keep))
    (first
      | ((try go_split_ands); go_at_call 24; refine Calls.mono (HCS.out _ (HTX.out.below (by rw [HhX.out] at *; with_reducible assumption))) ?_; rintro e wq ⟨rfl, hb⟩; (try go_split_ands); have qB : Below X.heap.size X wq := (bX_more (by with_reducible assumption) hb); have m0 := bX_oldc qB HlX0.out HxX0.out; have m1 := bX_oldc qB HlX0.out HxX1.out; have m2 := bX_oldc qB HlX0.out HxX2.out; have m3 := bX_oldc qB HlX0.out HxX3.out; clear hb))
  all_goals
    have hbq : Below w.heap.size w wq := bX_back HbX.out qB
    go_wp2_with fail
    go_returns
    exact ⟨by rw [HM.out]; rfl, hbq⟩

end Go.Proofs.YtocdboopmfgkpaaDoor
