/- caravanlaw09's done: contract; what the laws ask of the document's disk among others. caravanlaw09's looks, alike: both disks tell the same. -/
import Derived.Test.YtldppmjjgljinaaGreatDoorRDisQ
import Derived.Test.YtldppmjjgljinaaGreatDoorRDisT
namespace Go.Proofs.YtldppmjjgljinaaGreatDoor
open Go.RowKit

/-- Files have no target, on either tree. -/
structure Fl (D : Dk) : Prop where
  live : FileOk D.live
  lasts : FileOk D.lasts
theorem Fl.made (room : Nat) : Fl (Dk.made room) := ⟨FileOk.nil, FileOk.nil⟩
theorem Fl.act {D : Dk} (F : Fl D) (x : Eff) : Fl (D.act x).2 := by
  unfold Dk.act
  repeat (first | exact F | exact ⟨F.live.eff _ _ x, F.lasts⟩ | split)
theorem Fl.sync {D : Dk} (F : Fl D) : Fl D.sync.2 := by
  unfold Dk.sync
  split
  · exact F
  · exact ⟨F.live, F.live⟩
theorem Fl.fuse {D : Dk} (F : Fl D) (n : Int) : Fl (D.fuse n).2 := by
  unfold Dk.fuse
  repeat (first | exact F | exact ⟨F.live, F.lasts⟩ | split)
theorem Fl.crash {D : Dk} (F : Fl D) (ks : List UInt8) : Fl (D.crash ks) := ⟨FileOk.crash _ _ _ _ F.lasts, FileOk.crash _ _ _ _ F.lasts⟩
theorem Fl.done {D : Dk} (F : Fl D) (a : ActR) (k : Int) : Fl (D.done a k).2 := by
  unfold Dk.done
  repeat (first | (split; exact F.act _) | (split; exact F.crash _) | (split; exact F.fuse _))
  exact F.sync
theorem Fl.play {D : Dk} (F : Fl D) : ∀ (l : List ActR), Fl (playD D l)
  | [] => F
  | a :: r => Fl.play (F.done a _) r
theorem DkRun.dofit {k : Nat} {D : Dk} (R : DkRun k D) (F : Fl D) (hk : k ≤ 1048576) : DoFit D := ⟨R.ok, F.live, by have := R.len; omega, by have := R.lo; omega, R.hi⟩
theorem RkPost.from_ext {w w1 w' : World} {r : Nat} {M I : List Nat} {R : Int × Dk} {e : Ending} (x : Ext w w1) (h : RkPost w1 r M I R e w') : RkPost w r M I R e w' := by
  obtain ⟨h1, M', I', h2, h3⟩ := h
  exact ⟨h1, M', I', h2, (DkStep.of_ext x M I).trans h3⟩

section
variable {w0 w : World} {A B : List Thing} {r : Nat} {D : Dk}
theorem ref_ext {F : FuncId} {args : Array Value} {P : Ending → World → Prop} (h : Things w0 w (A ++ .ref r D :: B)) (hc : ∀ M I, RkAt w r M I D → Calls Tryz.prog F args w P) : Calls Tryz.prog F args w P := by
  obtain ⟨M, I, h1, _⟩ := h.opened
  exact hc M I h1
theorem ref_many {R : Int × Dk} {F : FuncId} {args : Array Value} (h : Things w0 w (A ++ .ref r D :: B)) (hc : ∀ M I, RkAt w r M I D → Calls Tryz.prog F args w (RkPost w r M I R)) :
    Calls Tryz.prog F args w fun e w' => e = .returned (.int .i64 R.1) ∧ Things w0 w' (A ++ .ref r R.2 :: B) := by
  obtain ⟨M, I, h1, h2, h3⟩ := h.opened
  refine (hc M I h1).mono ?_
  rintro e w' ⟨he, M', I', h4, h5⟩
  exact ⟨he, h3 w' M' I' (.ref r R.2) h4 h5⟩
theorem rmade_many (h : Things w0 w A) (room : Nat) : Calls Tryz.prog 42 #[.int .i64 (room : Nat)] w fun e w' => ∃ r, e = .returned (.pointer (some ⟨r, 0, none⟩)) ∧ Things w0 w' (A ++ [.ref r (Dk.made room)]) := by
  refine (rmade_any room w).mono ?_
  rintro e w' ⟨r, M, I, he, h1, h2, h3, h4⟩
  exact ⟨r, he, h.add h2 h1 h3 h4⟩
theorem rcrash_many (h : Things w0 w (A ++ .ref r D :: B)) (O : DkOk D) (F : FileOk D.lasts) (hlen : D.log.length ≤ 1073741824) (pv : Value) (ks : List UInt8) (hp : BytesIn w0 pv ks) :
    Calls Tryz.prog 45 #[.pointer (some ⟨r, 0, none⟩), pv] w fun e w' => e = .returned (.tuple #[]) ∧ Things w0 w' (A ++ .ref r (D.crash ks) :: B) := by
  obtain ⟨M, I, h1, h2, h3⟩ := h.opened
  refine (rcrash_any h1 O F hlen pv ks (hp.ext h.is_ext)).mono ?_
  rintro e w' ⟨he, M', I', h4, h5⟩
  exact ⟨he, h3 w' M' I' (.ref r (D.crash ks)) h4 h5⟩
end

set_option maxRecDepth 100000 in
set_option maxHeartbeats 8000000 in
theorem ldone_any {w0 w : World} {r : Nat} {M I : List Nat} {D : Dk} (h : RkAt w r M I D) (O : DoFit D) (F : FileOk D.lasts) (x0 : Ext w0 w) (a : ActR) (hA : ActFit a) (pv : Value) (hp : BytesIn w0 pv a.picks) :
    Calls Tryz.prog 43 #[.pointer (some ⟨r, 0, none⟩), .agg #[.int .i64 a.kind, .string a.p, .string a.q, .string a.text, .int .i64 a.long, .int .i64 a.time, pv]] w (RkPost w r M I (D.doA a)) := by
  have z1 := hA.p
  have z2 := hA.q
  have z3 := hA.text
  have z4 := hA.ok.long.2
  have HK := Lib.hid (show D.doA a = D.done a (a.kind % 16) from rfl)
  have hk := i64_and15 a.kind
  have HD := fun w => Lib.hid (ldata_any a pv w (by omega) z4)
  obtain ⟨dt, hdt⟩ : ∃ s, s = a.data := ⟨_, rfl⟩
  have hdz : dt.size ≤ 3000 := hdt ▸ dataS_size _ _
  have HDT := Lib.hid hdt
  rw [← hdt] at HD
  clear hdt
  have HDo := fun k (h1 : 1 ≤ k) (h6 : k ≤ 6) w1 (x : Ext w w1) => Lib.hid (rdo_any (h.ext x) O ⟨k, a.p, a.q, dt, a.time⟩ ⟨h1, h6, by show dt.size ≤ _; omega⟩ (by show a.p.size ≤ _; omega) (by show a.q.size ≤ _; omega))
  have HCr := fun w1 (x : Ext w w1) => Lib.hid (rcrash_any (h.ext x) O.ok F O.len pv a.picks (hp.ext (x0.trans x)))
  have HFu := fun w1 (x : Ext w w1) => Lib.hid (rfuse_any (h.ext x) O.ok.left a.long)
  have HSy := fun w1 (x : Ext w w1) => Lib.hid (rsync_any (h.ext x) O.ok.left (by have := O.lo; omega) O.hi)
  have HE : ∀ (k : Int), a.kind % 16 = k → D.doA a = D.done a k := fun k e => e ▸ rfl
  generalize D.doA a = R at *
  obtain ⟨k, hkk⟩ : ∃ k, a.kind % 16 = k := ⟨_, rfl⟩
  rw [hkk] at hk
  have HR := Lib.hid (HE k hkk)
  have hk16 : 0 ≤ k ∧ k < 16 := by omega
  clear HE HK h O hkk hA hp F
  by_cases e1 : 1 ≤ k ∧ k ≤ 6
  · have HR2 := Lib.hid (show R = D.act (RE.eff ⟨k, a.p, a.q, dt, a.time⟩) from by
      rw [HR.out, HDT.out]
      have : k = 1 ∨ k = 2 ∨ k = 3 ∨ k = 4 ∨ k = 5 ∨ k = 6 := by omega
      rcases this with rfl | rfl | rfl | rfl | rfl | rfl <;> rfl)
    have HDk := HDo k e1.1 e1.2
    have d1 : decide (1 ≤ k) = true := decide_eq_true e1.1
    have d6 : decide (k ≤ 6) = true := decide_eq_true e1.2
    clear HR HDo HCr HFu HSy
    dsimp only at HDk
    generalize a.kind = kd at *
    generalize a.p = xp at *
    generalize a.q = xq at *
    generalize a.text = xt at *
    generalize a.long = lg at *
    generalize a.time = tm at *
    have hb := heap_alloc_new w (.cells #[.int .i64 kd, .string xp, .string xq, .string xt, .int .i64 lg, .int .i64 tm, pv] 69)
    have c0 := cellB (k := 0) hb
    have HB := Lib.hid (show ∀ w', (∃ y : After (w.alloc (.cells #[.int .i64 kd, .string xp, .string xq, .string xt, .int .i64 lg, .int .i64 tm, pv] 69)), w' = y.v) → w'.heap[w.heap.size]? = some (.cells #[.int .i64 kd, .string xp, .string xq, .string xt, .int .i64 lg, .int .i64 tm, pv] 69 (0, 0)) from by rintro _ ⟨y, rfl⟩; exact (y.x.block (ltB hb)).trans hb)
    have q1 := fun y => After.at hb y (k := 1)
    have q2 := fun y => After.at hb y (k := 2)
    have q5 := fun y => After.at hb y (k := 5)
    have HX1 := Lib.hid ((Ext.refl w).alloc (.cells #[.int .i64 kd, .string xp, .string xq, .string xt, .int .i64 lg, .int .i64 tm, pv] 69))
    go_enter Tryz.func43, Tryz.ntmps43
    go_wp2_with fail
    refine wp_region_after_tail 11 (by kernel_rfl) (by kernel_rfl) ?_
    simp only [List.take_succ_cons, List.take_zero, List.drop_succ_cons, List.drop_zero]
    repeat (first | (refine wpQuiet_load_row rfl 69 (.tmp 3) rfl w.heap.size rfl 69 #[.int .i64 kd, .string xp, .string xq, .string xt, .int .i64 lg, .int .i64 tm, pv] (0, 0) _ HB.out Tryz.underlying69 rfl (by kernel_rfl) ?_; go_frame) | go_big_quiet_step (exact After.of (HD _).out))
    refine wpQuiet_nil ?_
    rintro _ ⟨y, rfl⟩
    clear hb HB q1 q2 q5 c0
    go_wp2_with fail
    refine (HDk y.v (HX1.out.trans y.x)).out.mono ?_
    rintro e w4 hq
    obtain ⟨rfl, _⟩ := id hq
    have HQ := Lib.hid (hq.from_ext (HX1.out.trans y.x))
    clear hq
    go_wp2_with fail
    go_ret
    rw [HR2.out]
    exact HQ.out
  · have HNot := Lib.hid e1
    have HX1 := Lib.hid ((Ext.refl w).alloc (.cells #[.int .i64 a.kind, .string a.p, .string a.q, .string a.text, .int .i64 a.long, .int .i64 a.time, pv] 69))
    have hb := heap_alloc_new w (.cells #[.int .i64 a.kind, .string a.p, .string a.q, .string a.text, .int .i64 a.long, .int .i64 a.time, pv] 69)
    have c0 := cellB (k := 0) hb
    have c4 := cellB (k := 4) hb
    have c6 := cellB (k := 6) hb
    have hor : (decide (1 ≤ k) = false) ∨ (decide (1 ≤ k) = true ∧ decide (k ≤ 6) = false) := by
      rcases Classical.em (1 ≤ k) with h | h
      · exact .inr ⟨decide_eq_true h, decide_eq_false fun h6 => e1 ⟨h, h6⟩⟩
      · exact .inl (decide_eq_false h)
    clear hb HDo HD
    by_cases e7 : k = 7
    · subst e7
      have HR2 := Lib.hid (HR.out.trans (show D.done a 7 = (0, D.crash a.picks) from rfl))
      have d1 : decide ((1 : Int) ≤ 7) = true := by decide
      have d6 : decide ((7 : Int) ≤ 6) = false := by decide
      clear HR HFu HSy hor e1 c4
      generalize a.kind = kd at *
      generalize a.p = xp at *
      generalize a.q = xq at *
      generalize a.text = xt at *
      generalize a.long = lg at *
      generalize a.time = tm at *
      go_enter Tryz.func43, Tryz.ntmps43
      go_wp2_with fail
      refine (HCr _ HX1.out).out.mono ?_
      rintro e w4 ⟨rfl, M', I', h4, h5⟩
      have HQ := Lib.hid (show RkPost w r M I (0, D.crash a.picks) (.returned (.int .i64 0)) w4 from ⟨rfl, M', I', h4, (DkStep.of_ext HX1.out M I).trans h5⟩)
      clear h4 h5
      go_wp2_with fail
      go_ret
      rw [HR2.out]
      exact HQ.out
    · by_cases e8 : k = 8
      · subst e8
        have HR2 := Lib.hid (HR.out.trans (show D.done a 8 = D.fuse a.long from rfl))
        have d1 : decide ((1 : Int) ≤ 8) = true := by decide
        have d6 : decide ((8 : Int) ≤ 6) = false := by decide
        clear HR HCr HSy hor e1 c6
        generalize a.kind = kd at *
        generalize a.p = xp at *
        generalize a.q = xq at *
        generalize a.text = xt at *
        generalize a.long = lg at *
        generalize a.time = tm at *
        go_enter Tryz.func43, Tryz.ntmps43
        go_wp2_with fail
        refine (HFu _ HX1.out).out.mono ?_
        rintro e w4 hq
        obtain ⟨rfl, _⟩ := id hq
        have HQ := Lib.hid (hq.from_ext HX1.out)
        clear hq
        go_wp2_with fail
        go_ret
        rw [HR2.out]
        exact HQ.out
      · have HR2 := Lib.hid (HR.out.trans (show D.done a k = D.sync from by unfold Dk.done; rw [if_neg (by omega), if_neg (by omega), if_neg (by omega), if_neg (by omega), if_neg (by omega), if_neg (by omega), if_neg e7, if_neg e8]))
        have n7 : (k == 7) = false := by rw [beq_eq_false_iff_ne]; exact e7
        have n8 : (k == 8) = false := by rw [beq_eq_false_iff_ne]; exact e8
        clear e7 e8 HR HCr HFu c4 c6 e1
        generalize a.kind = kd at *
        generalize a.p = xp at *
        generalize a.q = xq at *
        generalize a.text = xt at *
        generalize a.long = lg at *
        generalize a.time = tm at *
        rcases hor with d1 | ⟨d1, d6⟩
        all_goals
          go_enter Tryz.func43, Tryz.ntmps43
          go_wp2_with fail
          refine (HSy _ HX1.out).out.mono ?_
          rintro e w4 hq
          obtain ⟨rfl, _⟩ := id hq
          have HQ := Lib.hid (hq.from_ext HX1.out)
          clear hq
          go_wp2_with fail
          go_ret
          rw [HR2.out]
          exact HQ.out
theorem done_many {w0 w : World} {A B : List Thing} {r : Nat} {D : Dk} (h : Things w0 w (A ++ .ref r D :: B)) (O : DoFit D) (F : FileOk D.lasts) (a : ActR) (hA : ActFit a) (pv : Value) (hp : BytesIn w0 pv a.picks) :
    Calls Tryz.prog 43 #[.pointer (some ⟨r, 0, none⟩), .agg #[.int .i64 a.kind, .string a.p, .string a.q, .string a.text, .int .i64 a.long, .int .i64 a.time, pv]] w
      fun e w' => e = .returned (.int .i64 (D.doA a).1) ∧ Things w0 w' (A ++ .ref r (D.doA a).2 :: B) :=
  ref_many (R := D.doA a) h fun _ _ h1 => ldone_any h1 O F h.is_ext a hA pv hp
end Go.Proofs.YtldppmjjgljinaaGreatDoor

namespace Go.Proofs.YtldppmjjgljinaaGreatDoor
open Go.RowKit

/-- What List hands back, in the words of texts. -/
def ListOwn (w : World) (R : List ByteArray × Int) (e : Ending) (w' : World) : Prop := ∃ a cap, e = .returned (.tuple #[.slice a R.1.length cap, .int .i64 R.2]) ∧ R.1.length ≤ cap ∧ cap ≤ 9223372036854775807 ∧ Hid (TextsOwn w' (.slice a R.1.length cap) R.1) ∧ Ext w w'
theorem ListOwn.of {w w' : World} {R : List ByteArray × Int} {e : Ending} (h : ListPost w R e w') : ListOwn w R e w' := by
  obtain ⟨v, rfl, h1, h2⟩ := h
  have h3 := TextsOwn.of h1 rfl
  obtain ⟨a, cap, rfl, h4, h5⟩ := h3.shape
  exact ⟨a, cap, rfl, h4, h5, h3, h2⟩

set_option maxRecDepth 100000 in
set_option maxHeartbeats 4000000 in
theorem looks_true {w0 w : World} {A B A' B' : List Thing} {d r : Nat} {D : Dk} (ha : Things w0 w (A ++ .disk d D :: B)) (hb : Things w0 w (A' ++ .ref r D :: B')) (E : Env w0) (O : DkOk D) (p : ByteArray) (hp : p.size ≤ 4294967000) :
    Calls Tryz.prog 47 #[.pointer (some ⟨d, 0, none⟩), .pointer (some ⟨r, 0, none⟩), .string p] w fun e w' => e = .returned (.bool true) ∧ Ext w w' := by
  have hlen : D.live.length ≤ 1048576 := by have := len_used D.live; have := O.live.used; have := O.r2; omega
  have HRa := Lib.hid (read_many ha (E.ext ha.is_ext) p (by omega))
  have HRb := fun w1 (x : Ext w w1) => Lib.hid (ref_ext (hb.ext x) fun _ _ hd => rread9_any hd hlen p (by omega))
  have HLa := fun w1 (x : Ext w w1) => Lib.hid ((disk_ext (ha.ext x) fun _ _ hd => List_any hd O (E.ext (ha.ext x).is_ext) p (by omega)).mono fun _ _ h => ListOwn.of h)
  have HLb := fun w1 (x : Ext w w1) => Lib.hid ((ref_ext (hb.ext x) fun _ _ hd => rlist_any hd O p (by omega)).mono fun _ _ h => ListOwn.of h)
  generalize readE D.live p = R at *
  generalize listE D.live p = L at *
  obtain ⟨⟨kd, dt, tg, tm⟩, f⟩ := R
  obtain ⟨l, g⟩ := L
  simp only [nv, ndV] at HRa HRb
  clear ha hb E O hlen
  go_enter Tryz.func47, Tryz.ntmps47
  go_wp2_with fail
  refine HRa.out.mono ?_
  rintro e w1 ⟨rfl, x1⟩
  have X2 := Lib.hid (x1.alloc (.cells #[.int .i64 kd, .string dt, .string tg, .int .i64 tm] 57))
  have hn0 := heap_alloc_new w1 (.cells #[.int .i64 kd, .string dt, .string tg, .int .i64 tm] 57)
  clear x1 HRa
  go_wp2_with fail
  refine (HRb _ X2.out).out.mono ?_
  rintro e w3 ⟨rfl, x3⟩
  have X4 := Lib.hid ((X2.out.trans x3).alloc (.cells #[.int .i64 kd, .string dt, .string tg, .int .i64 tm] 57))
  have y4 := x3.alloc (.cells #[.int .i64 kd, .string dt, .string tg, .int .i64 tm] 57)
  have hn1 := (y4.block (ltB hn0)).trans hn0
  have hm1 := heap_alloc_new w3 (.cells #[.int .i64 kd, .string dt, .string tg, .int .i64 tm] 57)
  clear x3 y4 hn0 HRb
  go_wp2_with fail
  refine (HLa _ X4.out).out.mono ?_
  rintro e w5 ⟨a1, k1, rfl, hk1, hk1', HT1, x5⟩
  have X5 := Lib.hid (X4.out.trans x5)
  have hn2 := (x5.block (ltB hn1)).trans hn1
  have hm2 := (x5.block (ltB hm1)).trans hm1
  clear x5 hn1 hm1 HLa
  dsimp only at hk1 HT1 ⊢
  go_wp2_with fail
  refine (HLb _ X5.out).out.mono ?_
  rintro e w7 ⟨a2, k2, rfl, hk2, hk2', HT2, x7⟩
  have X7 := Lib.hid (X5.out.trans x7)
  have hn3 := (x7.block (ltB hn2)).trans hn2
  have hm3 := (x7.block (ltB hm2)).trans hm2
  have HS := Lib.hid (rsame_true l a1 a2 k1 k2 w7 (HT1.out.ext x7) HT2.out hk1 hk1')
  have n0 := cellB (k := 0) hn3
  have n1 := cellB (k := 1) hn3
  have n2 := cellB (k := 2) hn3
  have n3 := cellB (k := 3) hn3
  have m0 := cellB (k := 0) hm3
  have m1 := cellB (k := 1) hm3
  have m2 := cellB (k := 2) hm3
  have m3 := cellB (k := 3) hm3
  clear x7 hn2 hm2 hn3 hm3 HLb
  dsimp only at hk2 ⊢
  go_wp2_with fail
  refine HS.out.mono ?_
  rintro e w8 ⟨rfl, x8⟩
  have X8 := Lib.hid (X7.out.trans x8)
  clear x8
  go_wp2_with fail
  go_ret
  exact ⟨rfl, X8.out⟩

set_option maxRecDepth 100000 in
set_option maxHeartbeats 4000000 in
theorem alike_true {w0 w : World} {A B A' B' : List Thing} {d r n : Nat} {D : Dk} (ha : Things w0 w (A ++ .disk d D :: B)) (hb : Things w0 w (A' ++ .ref r D :: B')) (E : Env w0) (R : DkRun n D) (hn : n ≤ 100000) :
    Calls Tryz.prog 44 #[.pointer (some ⟨d, 0, none⟩), .pointer (some ⟨r, 0, none⟩)] w fun e w' => e = .returned (.bool true) ∧ Ext w w' := by
  have hlen := live_few R
  have hused : usedL D.live ≤ 1048576 := by have := R.ok.live.used; have := R.ok.r2; omega
  have HP := Lib.hid (paths_own ha R.ok)
  have HU1 := fun w1 (x : Ext w w1) => Lib.hid (used_many (ha.ext x))
  have HPn := fun w1 (x : Ext w w1) => Lib.hid (pending_many (ha.ext x) (R.fit (by omega)))
  have HOf := fun w1 (x : Ext w w1) => Lib.hid (off_many (ha.ext x))
  have HRo := fun w1 (x : Ext w w1) => Lib.hid (room_many (ha.ext x))
  have HOg := fun w1 (x : Ext w w1) => Lib.hid (ref_ext (hb.ext x) fun M I hd => roff_any r M I D w1 hd R.ok.left)
  have HRa := fun (j : Nat) y (hy : D.live[j]? = some y) w1 (x : Ext w w1) => Lib.hid (show Calls Tryz.prog 29 #[.pointer (some ⟨d, 0, none⟩), .string y.1] w1 fun e w' => e = .returned (.tuple #[nv y.2, .int .i64 0]) ∧ Ext w1 w' from by
    obtain ⟨e1, e2⟩ := read_at R hy
    have := read_many (ha.ext x) (E.ext (ha.ext x).is_ext) y.1 (by omega)
    rwa [e1] at this)
  have hnl := R.len
  clear ha
  obtain ⟨M, I, hd, _⟩ := hb.opened
  obtain ⟨lt, ls, lv, sv, lg, h, -, -⟩ := hd
  obtain ⟨res, hres, hlog⟩ := h.log
  obtain ⟨oa, ocap, rfl⟩ := row7_shape hlog
  have hbk := h.blk
  have HT := Lib.hid h.live
  have HU2 := fun w1 (x : Ext w w1) => Lib.hid (rused_any lt lv D.live D.room w1 (h.live.ext x) (by omega) (by omega))
  have hlb := h.live.blk
  obtain ⟨a, cap, rfl, hv1, hv2, hv3⟩ := h.live.shape
  have HV := Lib.hid hv3
  clear hb h hlog hres E R hv3
  generalize D.live = L at *
  generalize D.room = room at *
  generalize D.off = off at *
  obtain ⟨nl, hnl2⟩ : ∃ nl, nl = D.log.length := ⟨_, rfl⟩
  rw [← hnl2] at HPn hbk hnl
  generalize D.left = left at *
  generalize D.fused = fused at *
  obtain ⟨N, hN⟩ : ∃ N, N = L.length := ⟨_, rfl⟩
  have HL := Lib.hid hN
  rw [← hN] at HP hlen hlb hv1
  generalize usedL L = U at *
  have HB := Lib.hid hbk
  have HLb := Lib.hid hlb
  clear hN hnl2
  go_enter Tryz.func44, Tryz.ntmps44
  go_wp2_with fail
  refine HP.out.mono ?_
  rintro e w1 ⟨a1, k1, rfl, hk1, hk1', HO1, x1⟩
  have HX1 := Lib.hid x1
  have hb1 := (x1.block (ltB hbk)).trans hbk
  have hl1 := (x1.block (ltB hlb)).trans hlb
  have c0 := After.cell (cellB (k := 0) hb1)
  have c2 := After.cell (cellB (k := 2) hb1)
  have t0 := After.cell (cellB (k := 0) hl1)
  have t1 := After.cell (cellB (k := 1) hl1)
  clear x1 HP hb1 hl1 hbk hlb
  go_wp2_with fail
  refine wp_region_after (by kernel_rfl) (by kernel_rfl) ?_
  repeat (go_big_quiet_step (first
    | (go_at_call 32; exact After.same (HU1 _ (HX1.out.trans (After.x _))).out)
    | (go_at_call 100; exact After.same (HU2 _ (HX1.out.trans (After.x _))).out)
    | (go_at_call 37; exact After.same (HPn _ (HX1.out.trans (After.x _))).out)
    | (go_at_call 34; exact After.same (HOf _ (HX1.out.trans (After.x _))).out)
    | (go_at_call 101; exact After.same (HOg _ (HX1.out.trans (After.x _))).out)
    | (go_at_call 33; exact After.same (HRo _ (HX1.out.trans (After.x _))).out)))
  refine wpQuiet_nil ?_
  rintro _ ⟨y, rfl⟩
  have HX2 := Lib.hid (HX1.out.trans y.x)
  have HO2 := Lib.hid (HO1.out.ext y.x)
  obtain ⟨w2, hw2⟩ : ∃ x, x = y.v := ⟨_, rfl⟩
  rw [← hw2] at HX2 HO2 ⊢
  clear c0 c2 t0 t1 hw2 y HX1 HO1 HU1 HU2 HPn HOf HOg HRo
  go_wp2_with fail
  go_loopw [6] (fun iv wr => Hid (∃ k : Nat, k ≤ N ∧ iv = .int .i64 k ∧ Ext w2 wr)) (fun iv _ => N - (intOf iv).toNat)
  case atStart => exact ⟨0, Nat.zero_le _, rfl, Ext.refl _⟩
  case round =>
    obtain ⟨k, hk, rfl, hx⟩ := hrel.out
    clear hrel
    have HX := Lib.hid hx
    by_cases hlt : k < N
    · obtain ⟨y, hy⟩ : ∃ y, L[k]? = some y := ⟨_, List.getElem?_eq_getElem (by have := HL.out; omega)⟩
      obtain ⟨g1, rfl, ck1⟩ := (HO2.out.ext hx).get _ _ _ rfl k y.1 (by rw [List.getElem?_map, hy]; rfl)
      obtain ⟨g, rfl, hgl, hc⟩ := HV.out k y hy
      have HRk := Lib.hid ((HRa k y hy) wr (HX2.out.trans hx)).out
      have hxw := HX2.out.trans hx
      have HBr := Lib.hid ((hxw.block (ltB HB.out)).trans HB.out)
      have HLr := Lib.hid ((hxw.block (ltB HLb.out)).trans HLb.out)
      have HRg := Lib.hid (range_ext hc hxw hgl)
      have hgr : g < wr.heap.size := Nat.lt_of_lt_of_le hgl hxw.size
      obtain ⟨s, kd, dt, tg, tm⟩ := y
      simp only [nv] at HRk ck1
      clear hx hy HRa hc hxw
      go_wp2_with fail
      refine HRk.out.mono ?_
      rintro e w4 ⟨rfl, x4⟩
      have X5 := Lib.hid (x4.alloc (.cells #[.int .i64 kd, .string dt, .string tg, .int .i64 tm] 57))
      have hn0 := heap_alloc_new w4 (.cells #[.int .i64 kd, .string dt, .string tg, .int .i64 tm] 57)
      have ck2 := (X5.out.cell (lt_of_cell ck1)).trans ck1
      have hb5 := (X5.out.block (ltB HBr.out)).trans HBr.out
      have hl5 := (X5.out.block (ltB HLr.out)).trans HLr.out
      have hr5 := range_ext HRg.out X5.out hgr
      have c0 := cellB (k := 0) hb5
      have t0 := cellB (k := 0) hl5
      have r0 : (w4.alloc (.cells #[.int .i64 kd, .string dt, .string tg, .int .i64 tm] 57)).cell? ⟨g, k * 5, none⟩ = some (.string s) := hr5 0 _ rfl
      have r1 : (w4.alloc (.cells #[.int .i64 kd, .string dt, .string tg, .int .i64 tm] 57)).cell? ⟨g, k * 5 + 1, none⟩ = some (.int .i64 kd) := hr5 1 _ rfl
      have r2 : (w4.alloc (.cells #[.int .i64 kd, .string dt, .string tg, .int .i64 tm] 57)).cell? ⟨g, k * 5 + 2, none⟩ = some (.string dt) := hr5 2 _ rfl
      have r3 : (w4.alloc (.cells #[.int .i64 kd, .string dt, .string tg, .int .i64 tm] 57)).cell? ⟨g, k * 5 + 3, none⟩ = some (.string tg) := hr5 3 _ rfl
      have r4 : (w4.alloc (.cells #[.int .i64 kd, .string dt, .string tg, .int .i64 tm] 57)).cell? ⟨g, k * 5 + 4, none⟩ = some (.int .i64 tm) := hr5 4 _ rfl
      have n0 := cellB (k := 0) hn0
      have n1 := cellB (k := 1) hn0
      have n2 := cellB (k := 2) hn0
      have n3 := cellB (k := 3) hn0
      clear x4 hn0 hb5 hl5 hr5 HRk ck1
      go_wp2_with fail
      go_quiet (fail)
      go_wp2_with fail
      go_roundw
      case rel => exact ⟨k + 1, by omega, by go_num, (HX.out.trans X5.out).drewN _⟩
      case measure => simp [intOf] <;> omega
    · obtain rfl : k = N := by omega
      have nlt : decide ((k : Int) < (k : Int)) = false := by simp
      clear hx
      go_wp2_with fail
      go_ret
      exact ⟨rfl, HX2.out.trans HX.out⟩
end Go.Proofs.YtldppmjjgljinaaGreatDoor
