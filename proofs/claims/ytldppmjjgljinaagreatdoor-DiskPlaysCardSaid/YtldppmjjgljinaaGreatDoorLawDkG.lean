/- caravanlaw09's made, is, awake: contracts. caravanlaw09's play: contract. caravanlaw09's same: two disks of the same tree are the same. -/
import Derived.Test.YtldppmjjgljinaaGreatDoorLawDkD
import Derived.Deep.MidRow
namespace Go.Proofs.YtldppmjjgljinaaGreatDoor
open Go.RowKit

set_option maxRecDepth 100000 in
set_option maxHeartbeats 2000000 in
theorem made_many {w0 w : World} {A : List Thing} (h : Things w0 w A) (E : Env w0) :
    Calls Tryz.prog 56 #[.int .i64 1024] w fun e w' => ∃ d, e = .returned (.pointer (some ⟨d, 0, none⟩)) ∧ Hid (Things w0 w' (A ++ [.disk d k3])) := by
  have H0 := Lib.hid (new_many h 1024 (by decide) (by decide))
  have HE := Lib.hid E
  clear h E
  go_enter Tryz.func56, Tryz.ntmps56
  go_wp2_with fail
  refine H0.out.mono ?_
  rintro e w1 ⟨d, rfl, h1⟩
  have H1 := Lib.hid (mkdir_many (A := A) (B := []) h1 (kr0.fit (by decide)) (HE.out.ext h1.is_ext) ⟨#[97]⟩ (by decide) kx1)
  clear h1
  go_wp2_with fail
  refine H1.out.mono ?_
  rintro e w2 ⟨rfl, h2⟩
  have H2 := Lib.hid (write_many (A := A) (B := []) h2 (kr1.fit (by decide)) (HE.out.ext h2.is_ext) ⟨#[97, 47, 98]⟩ ⟨#[120]⟩ 1 (by decide) (by decide) kx2)
  clear h2
  go_wp2_with fail
  refine H2.out.mono ?_
  rintro e w3 ⟨rfl, h3⟩
  have H3 := Lib.hid (append_many (A := A) (B := []) h3 (kr2.fit (by decide)) (HE.out.ext h3.is_ext) ⟨#[97, 47, 98]⟩ ⟨#[121]⟩ (by decide) (by decide) kx3)
  clear h3
  go_wp2_with fail
  refine H3.out.mono ?_
  rintro e w4 ⟨rfl, h4⟩
  have HF := Lib.hid h4
  clear h4
  go_wp2_with fail
  go_ret
  exact ⟨d, rfl, HF.out⟩

set_option maxRecDepth 100000 in
set_option maxHeartbeats 2000000 in
theorem is_many {w0 w : World} {A B : List Thing} {d : Nat} {D : Dk} (h : Things w0 w (A ++ .disk d D :: B)) (E : Env w) (p want : ByteArray) (t : Int) (hp : p.size < 4294967281) (hR : readE D.live p = (⟨1, want, emp, t⟩, 0)) :
    Calls Tryz.prog 62 #[.pointer (some ⟨d, 0, none⟩), .string p, .string want, .int .i64 t] w fun e w' => e = .returned (.bool true) ∧ Ext w w' := by
  have H0 := Lib.hid (read_many h E p hp)
  rw [hR] at H0
  simp only [nv, emp] at H0
  clear h E hR
  go_enter Tryz.func62, Tryz.ntmps62
  go_wp2_with fail
  refine H0.out.mono ?_
  rintro e w1 ⟨rfl, x1⟩
  have HX := Lib.hid x1
  clear x1
  go_wp2_with fail
  go_ret
  exact ⟨rfl, HX.out.alloc _⟩

set_option maxRecDepth 100000 in
set_option maxHeartbeats 2000000 in
theorem awake_any (w : World) (E : Env w) : Calls Tryz.prog 26 #[] w fun e w' => e = .returned (.bool true) ∧ Ext w w' := by
  have H0 := Lib.hid (made_many (Things.start (Ext.refl w)) E)
  have HE := Lib.hid E
  clear E
  go_enter Tryz.func26, Tryz.ntmps26
  go_wp2_with fail
  refine H0.out.mono ?_
  rintro e w1 ⟨d, rfl, h1⟩
  have H1 := Lib.hid (is_many (A := []) (B := []) h1.out (HE.out.ext h1.out.is_ext) ⟨#[97, 47, 98]⟩ ⟨#[120, 121]⟩ 1 (by decide) ky1)
  go_wp2_with fail
  refine H1.out.mono ?_
  rintro e w2 ⟨rfl, x2⟩
  have HT2 := Lib.hid (h1.out.ext x2)
  have H2 := Lib.hid (mkdir_many (A := []) (B := []) HT2.out (kr3.fit (by decide)) (HE.out.ext HT2.out.is_ext) ⟨#[97]⟩ (by decide) ky2)
  clear h1 x2 H1
  go_wp2_with fail
  refine H2.out.mono ?_
  rintro e w3 ⟨rfl, h3⟩
  have HT3 := Lib.hid h3
  have H3 := Lib.hid (write_many (A := []) (B := []) HT3.out (kr3.fit (by decide)) (HE.out.ext HT3.out.is_ext) ⟨#[99, 47, 98]⟩ ⟨#[]⟩ 1 (by decide) (by decide) ky3)
  clear h3
  go_wp2_with fail
  refine H3.out.mono ?_
  rintro e w4 ⟨rfl, h4⟩
  have HT4 := Lib.hid h4
  have H4 := Lib.hid (remove_many (A := []) (B := []) HT4.out (kr3.fit (by decide)) (HE.out.ext HT4.out.is_ext) ⟨#[97]⟩ (by decide) ky4)
  clear h4
  go_wp2_with fail
  refine H4.out.mono ?_
  rintro e w5 ⟨rfl, h5⟩
  have HT5 := Lib.hid h5
  have H5 := Lib.hid (used_many (A := []) (B := []) HT5.out)
  have H6 := Lib.hid (pending_many (A := []) (B := []) HT5.out (kr3.fit (by decide)))
  rw [ky5] at H5
  rw [show k3.log.length = 3 from rfl] at H6
  clear h5
  go_wp2_with fail
  refine H5.out.mono ?_
  rintro e w6 ⟨rfl, hw6⟩
  obtain rfl := hw6.symm
  clear hw6
  go_wp2_with fail
  refine H6.out.mono ?_
  rintro e w7 ⟨rfl, hw7⟩
  obtain rfl := hw7.symm
  clear hw7
  go_wp2_with fail
  go_ret
  exact ⟨rfl, HT5.out.is_ext⟩
end Go.Proofs.YtldppmjjgljinaaGreatDoor

namespace Go.Proofs.YtldppmjjgljinaaGreatDoor
open Go.RowKit

theorem range_act {w : World} {g o : Nat} {x : ActR} {pv : Value} (h : ∀ (j : Nat) u, (actVal x pv)[j]? = some u → w.cell? ⟨g, o + j, none⟩ = some u) :
    w.rangeAt g o #[.int .i64 x.kind, .string x.p, .string x.q, .string x.text, .int .i64 x.long, .int .i64 x.time, pv].toList := h
/-- All acts are small enough to be looked at. -/
def ActsFit (l : List ActR) : Prop := ∀ a ∈ l, a.p.size + a.q.size ≤ 1000 ∧ a.text.size ≤ 10000
theorem ActsFit.at {l : List ActR} {k : Nat} {x : ActR} (h : ActsFit l) (hx : l[k]? = some x) (ho : ActOk x) : ActFit x := by
  have := h x (List.mem_of_getElem? hx)
  exact ⟨ho, by omega, by omega, this.2⟩
theorem long_all {w : World} {v : Value} {l : List ActR} (h : ActsIn w v l) : ∀ a ∈ l, a.long ≤ 9223372036854775807 := by
  obtain ⟨a, cap, _, _, _, h4⟩ := h
  intro x hx
  obtain ⟨k, hk⟩ := List.getElem?_of_mem hx
  exact (h4 k x hk).1.long.2
theorem run_take {w : World} {v : Value} {l : List ActR} {n : Nat} {D : Dk} (R : DkRun n D) (h : ActsIn w v l) (k : Nat) : DkRun (n + k) (playD D (l.take k)) := by
  refine (R.play (l.take k) fun a ha => long_all h a (List.mem_of_mem_take ha)).mono ?_
  rw [List.length_take]; omega

def k16 : Dk := Dk.made 16384
theorem kr16 : DkRun 0 k16 := DkRun.made (by decide) (by decide)

set_option maxRecDepth 100000 in
set_option maxHeartbeats 2000000 in
theorem play_many {w0 w : World} {A : List Thing} (h : Things w0 w A) (E : Env w0) {v : Value} {l : List ActR} (hA : ActsIn w0 v l) (hF : ActsFit l) (hl : l.length ≤ 60) :
    Calls Tryz.prog 27 #[v] w fun e w' => ∃ d, e = .returned (.pointer (some ⟨d, 0, none⟩)) ∧ Hid (Things w0 w' (A ++ [.disk d (playD k16 l)])) := by
  have H0 := Lib.hid (new_many h 16384 (by decide) (by decide))
  have HE := Lib.hid E
  have HRun := Lib.hid (fun k => run_take kr16 hA k)
  obtain ⟨a, cap, rfl, hl1, hl2, hcell⟩ := hA
  unfold maxLen at hl2
  have HC := Lib.hid hcell
  have HF := Lib.hid hF
  obtain ⟨n, hn⟩ : ∃ n, n = l.length := ⟨_, rfl⟩
  have HL := Lib.hid hn
  rw [← hn] at hl1 hl ⊢
  clear hcell hn hF h E
  go_enter Tryz.func27, Tryz.ntmps27
  go_wp2_with fail
  refine H0.out.mono ?_
  rintro e w1 ⟨d, rfl, h1⟩
  have HT1 := Lib.hid h1
  clear h1
  go_wp2_with fail
  go_loopw [5] (fun iv wr => Hid (∃ k : Nat, k ≤ n ∧ iv = .int .i64 k ∧ Things w0 wr (A ++ [.disk d (playD k16 (l.take k))]))) (fun iv _ => n - (intOf iv).toNat)
  case atStart => exact ⟨0, Nat.zero_le _, rfl, HT1.out⟩
  case round =>
    obtain ⟨k, hk, rfl, ht⟩ := hrel.out
    clear hrel
    by_cases hlt : k < n
    · obtain ⟨x, hxk⟩ : ∃ x, l[k]? = some x := ⟨_, List.getElem?_eq_getElem (by have := HL.out; omega)⟩
      obtain ⟨hok, g, o, pv, rfl, hp, hcs⟩ := HC.out k x hxk
      have HLD := Lib.hid (range_act (x := x) (pv := pv) (o := o + k * 7) (g := g) (w := wr) fun j u hj => (ht.is_ext.cell (lt_of_cell (hcs j u hj))).trans (hcs j u hj))
      have HD := Lib.hid (do_many (A := A) (B := []) ht ((HRun.out k).fit (by omega)) HE.out x (HF.out.at hxk hok) pv hp)
      have HN := Lib.hid (playD_next (D := k16) hxk)
      rw [← HN.out] at HD
      clear ht hok hp hcs hxk HN
      generalize x.kind = kd at *
      generalize x.p = xp at *
      generalize x.q = xq at *
      generalize x.text = xt at *
      generalize x.long = lg at *
      generalize x.time = tm at *
      go_wp2_with (refine wpList_load_at rfl 69 (.tmp 23) rfl g (o + k * 7) rfl _ _ HLD.out Tryz.underlying69 rfl (by kernel_rfl) ?_; go_frame)
      refine HD.out.mono ?_
      rintro e w3 ⟨rfl, h3⟩
      have HT3 := Lib.hid h3
      clear h3
      go_wp2_with fail
      go_roundw
      case rel => exact ⟨k + 1, by omega, by go_num, HT3.out⟩
      case measure => simp [intOf] <;> omega
    · obtain rfl : k = n := by omega
      have nlt : decide ((k : Int) < (k : Int)) = false := by simp
      have HT := Lib.hid ht
      have HTK := Lib.hid (show l.take k = l from by rw [HL.out, List.take_length])
      clear ht
      go_wp2_with fail
      go_ret
      exact ⟨d, rfl, by have := HT.out; rw [HTK.out] at this; exact this⟩
end Go.Proofs.YtldppmjjgljinaaGreatDoor

namespace Go.Proofs.YtldppmjjgljinaaGreatDoor
open Go.RowKit

/-- Texts in a row of the call's own. -/
structure TextsOwn (w : World) (v : Value) (l : List ByteArray) : Prop where
  shape : ∃ a cap, v = .slice a l.length cap ∧ l.length ≤ cap ∧ cap ≤ 9223372036854775807
  get : ∀ (a : Option Addr) (n cap : Nat), v = .slice a n cap → ∀ (k : Nat) s, l[k]? = some s → ∃ g, a = some ⟨g, 0, none⟩ ∧ w.cell? ⟨g, k, none⟩ = some (.string s)
theorem TextsOwn.of {w : World} {base n : Nat} {v : Value} {l : List ByteArray} (h : w.ownsRow base 9 1 v n (l.map Value.string)) (hn : l.length = n) : TextsOwn w v l := by
  subst hn
  obtain ⟨a, cap, rfl, h1, h2, h3, h4⟩ := row_slice h
  unfold maxLen at h3
  refine ⟨⟨a, cap, rfl, h2, h3⟩, fun a' n' cap' e k s hs => ?_⟩
  cases e
  obtain ⟨g, rfl, _, _, hc⟩ := h4 k (.string s) (by rw [List.getElem?_map, hs]; rfl)
  exact ⟨g, rfl, hc⟩
theorem TextsOwn.ext {w w' : World} {v : Value} {l : List ByteArray} (h : TextsOwn w v l) (x : Ext w w') : TextsOwn w' v l :=
  ⟨h.shape, fun a n cap e0 k s hs => let ⟨g, e, hc⟩ := h.get a n cap e0 k s hs; ⟨g, e, (x.cell (lt_of_cell hc)).trans hc⟩⟩
theorem paths_own {w0 w : World} {A B : List Thing} {d : Nat} {D : Dk} (h : Things w0 w (A ++ .disk d D :: B)) (O : DkOk D) :
    Calls Tryz.prog 28 #[.pointer (some ⟨d, 0, none⟩)] w fun e w' => ∃ a cap, e = .returned (.slice a D.live.length cap) ∧ D.live.length ≤ cap ∧ cap ≤ 9223372036854775807 ∧ Hid (TextsOwn w' (.slice a D.live.length cap) (D.live.map (·.1))) ∧ Ext w w' := by
  refine (paths_many h O).mono ?_
  rintro e w' ⟨v, rfl, h1, h2⟩
  have h3 := TextsOwn.of h1 (by simp)
  obtain ⟨a, cap, rfl, h4, h5⟩ := h3.shape
  rw [List.length_map] at h3 h4 ⊢
  exact ⟨a, cap, rfl, h4, h5, h3, h2⟩
theorem live_few {k : Nat} {D : Dk} (R : DkRun k D) : D.live.length ≤ 16384 := by
  have h1 := len_used D.live
  have h2 := R.ok.live.used
  have h3 := R.ok.r2
  omega
theorem read_at {k : Nat} {D : Dk} (R : DkRun k D) {j : Nat} {x : ByteArray × Nd} (h : D.live[j]? = some x) : readE D.live x.1 = (x.2, 0) ∧ x.1.size ≤ 160 := by
  obtain ⟨h1, h2, _⟩ := R.ok.live.at h
  exact ⟨by unfold readE; rw [if_pos h2, h1], mayB_size h2⟩

set_option maxRecDepth 100000 in
set_option maxHeartbeats 2000000 in
theorem same_true {w0 w : World} {A B A' B' : List Thing} {a b n m : Nat} {D D' : Dk} (ha : Things w0 w (A ++ .disk a D :: B)) (hb : Things w0 w (A' ++ .disk b D' :: B')) (E : Env w0) (R : DkRun n D) (R' : DkRun m D') (hD : D'.live = D.live) :
    Calls Tryz.prog 39 #[.pointer (some ⟨a, 0, none⟩), .pointer (some ⟨b, 0, none⟩)] w fun e w' => e = .returned (.bool true) ∧ Ext w w' := by
  have HP1 := Lib.hid (paths_own ha R.ok)
  have HP2 := fun w1 (x : Ext w w1) => Lib.hid (paths_own (hb.ext x) R'.ok)
  have HU1 := fun w1 (x : Ext w w1) => Lib.hid (used_many (ha.ext x))
  have HU2 := fun w1 (x : Ext w w1) => Lib.hid (used_many (hb.ext x))
  rw [hD] at HP2 HU2
  have hlen := live_few R
  have HR1 := fun (j : Nat) y (hy : D.live[j]? = some y) w1 (x : Ext w w1) => Lib.hid (show Calls Tryz.prog 29 #[.pointer (some ⟨a, 0, none⟩), .string y.1] w1 fun e w' => e = .returned (.tuple #[nv y.2, .int .i64 0]) ∧ Ext w1 w' from by
    obtain ⟨e1, e2⟩ := read_at R hy
    have := read_many (ha.ext x) (E.ext (ha.ext x).is_ext) y.1 (by omega)
    rwa [e1] at this)
  have HR2 := fun (j : Nat) y (hy : D.live[j]? = some y) w1 (x : Ext w w1) => Lib.hid (show Calls Tryz.prog 29 #[.pointer (some ⟨b, 0, none⟩), .string y.1] w1 fun e w' => e = .returned (.tuple #[nv y.2, .int .i64 0]) ∧ Ext w1 w' from by
    obtain ⟨e1, e2⟩ := read_at R' (hD ▸ hy)
    have := read_many (hb.ext x) (E.ext (hb.ext x).is_ext) y.1 (by omega)
    rwa [e1] at this)
  clear R R' ha hb hD E
  generalize D.live = L at *
  obtain ⟨N, hN⟩ : ∃ N, N = L.length := ⟨_, rfl⟩
  have HL := Lib.hid hN
  rw [← hN] at HP1 HP2 hlen
  have hUm : usedL L = usedL L := rfl
  generalize usedL L = U at *
  clear hN hUm
  go_enter Tryz.func39, Tryz.ntmps39
  go_wp2_with fail
  refine HP1.out.mono ?_
  rintro e w1 ⟨a1, c1, rfl, hc1, hc1', HO1, x1⟩
  have HX1 := Lib.hid x1
  clear x1
  go_wp2_with fail
  refine (HP2 _ HX1.out).out.mono ?_
  rintro e w2 ⟨a2, c2, rfl, hc2, hc2', HO2, x2⟩
  have HX2 := Lib.hid (HX1.out.trans x2)
  have HO1' := Lib.hid (HO1.out.ext x2)
  clear x2 HX1 HO1 HP1 HP2
  go_wp2_with fail
  refine (HU1 _ HX2.out).out.mono ?_
  rintro e w3 ⟨rfl, hw⟩
  obtain rfl := hw.symm
  clear hw
  go_wp2_with fail
  refine (HU2 _ HX2.out).out.mono ?_
  rintro e w3 ⟨rfl, hw⟩
  obtain rfl := hw.symm
  clear hw
  go_wp2_with fail
  go_loopw [7] (fun iv wr => Hid (∃ k : Nat, k ≤ N ∧ iv = .int .i64 k ∧ Ext w2 wr)) (fun iv _ => N - (intOf iv).toNat)
  case atStart => exact ⟨0, Nat.zero_le _, rfl, Ext.refl _⟩
  case round =>
    obtain ⟨k, hk, rfl, hx⟩ := hrel.out
    clear hrel
    have HX := Lib.hid hx
    by_cases hlt : k < N
    · obtain ⟨y, hy⟩ : ∃ y, L[k]? = some y := ⟨_, List.getElem?_eq_getElem (by have := HL.out; omega)⟩
      obtain ⟨g1, rfl, ck1⟩ := (HO1'.out.ext hx).get _ _ _ rfl k y.1 (by rw [List.getElem?_map, hy]; rfl)
      obtain ⟨g2, rfl, ck2⟩ := (HO2.out.ext hx).get _ _ _ rfl k y.1 (by rw [List.getElem?_map, hy]; rfl)
      have HRa := Lib.hid ((HR1 k y hy) wr (HX2.out.trans hx)).out
      have HRb := fun w1 (x : Ext wr w1) => Lib.hid ((HR2 k y hy) w1 ((HX2.out.trans hx).trans x)).out
      obtain ⟨s, kd, dt, tg, tm⟩ := y
      simp only [nv] at HRa HRb ck1 ck2
      clear hx hy HR1 HR2
      go_wp2_with fail
      refine HRa.out.mono ?_
      rintro e w4 ⟨rfl, x4⟩
      have X5 := Lib.hid (x4.alloc (.cells #[.int .i64 kd, .string dt, .string tg, .int .i64 tm] 57))
      have ck1 := (X5.out.cell (lt_of_cell ck1)).trans ck1
      have ck2 := (X5.out.cell (lt_of_cell ck2)).trans ck2
      clear x4
      go_wp2_with fail
      refine (HRb _ X5.out).out.mono ?_
      rintro e w5 ⟨rfl, x5⟩
      have hb1 := (x5.block (ltB (heap_alloc_new w4 _))).trans (heap_alloc_new w4 (.cells #[.int .i64 kd, .string dt, .string tg, .int .i64 tm] 57))
      have X6 := Lib.hid ((X5.out.trans x5).alloc (.cells #[.int .i64 kd, .string dt, .string tg, .int .i64 tm] 57))
      have xx := x5.alloc (.cells #[.int .i64 kd, .string dt, .string tg, .int .i64 tm] 57)
      have ck1 := (xx.cell (lt_of_cell ck1)).trans ck1
      have ck2 := (xx.cell (lt_of_cell ck2)).trans ck2
      have hb1 := (block_alloc_old (o := .cells #[.int .i64 kd, .string dt, .string tg, .int .i64 tm] 57) (ltB hb1)).trans hb1
      have n0 := cellB (k := 0) hb1
      have n1 := cellB (k := 1) hb1
      have n2 := cellB (k := 2) hb1
      have n3 := cellB (k := 3) hb1
      clear x5 xx HRa HRb hb1
      go_wp2_with fail
      go_quiet (fail)
      go_wp2_with fail
      go_roundw
      case rel => exact ⟨k + 1, by omega, by go_num, (HX.out.trans X6.out).drewN _⟩
      case measure => simp [intOf] <;> omega
    · obtain rfl : k = N := by omega
      have nlt : decide ((k : Int) < (k : Int)) = false := by simp
      clear hx
      go_wp2_with fail
      go_ret
      exact ⟨rfl, HX2.out.trans HX.out⟩
end Go.Proofs.YtldppmjjgljinaaGreatDoor
