/- Contracts of the two functions within caravan/ignore's Parse. Printed by gen_ignf.py. -/
import Derived.Test.YtlabhbeacogfbaaDoorIgnE
import Derived.Outline
namespace Go.Proofs.YtlabhbeacogfbaaDoor
open Go.RowKit

/-- What reading answers, at a depth. -/
def ReadsAt (w0 : World) (s0 s1 : Nat) (fs : List (ByteArray × ByteArray)) (m : Nat) (wi : List ByteArray) : Prop := ∀ (name : ByteArray) (v : Value) (ps : List (ByteArray × Pat × Nat)) (inc n : Nat) (w : World),
  name.size ≤ maxLen → IgInv w0 s0 s1 fs wi v ps inc n w → ps.length ≤ 64 → inc ≤ 65 → n ≤ 2 * inc →
  Calls Tryd.prog 26 #[.string name, .int .i64 (wi.length + 1 : Nat), .pointer (some ⟨s0 + 1, 0, none⟩), .pointer (some ⟨s1 + 3, 0, none⟩), .pointer (some ⟨s1 + 4, 0, none⟩), .pointer (some ⟨s1 + 6, 0, none⟩)] w
    (IgPost w0 s0 s1 fs wi v inc n 2 w (readL (fsL fs) m name.toList (wi.map (·.toList)) ⟨ps.map fun x => x.1.toList, inc⟩))

theorem own_shape {w : World} {base : Nat} {e : TypeId} {v : Value} {n : Nat} {xs : List Value} (h : w.ownsRow base e 1 v n xs) : ∃ a c, v = .slice a n c ∧ n ≤ c ∧ c ≤ maxLen := by
  rcases h.2 with ⟨h1, h2⟩ | ⟨g, cap, cur, hv, hb, hh, hc, hm, hs, ht⟩
  · exact ⟨none, 0, by rw [h1, h2], by omega, by unfold maxLen; omega⟩
  · exact ⟨_, cap, hv, hc, hm⟩
theorem new1d {W : World} {g : Nat} {a : Value} {t : TypeId} (h : W.heap[g]? = some (.cells #[a] t (0, 0))) : ∀ (j : Nat) u, [a][j]? = some u → W.cell? ⟨g, j, none⟩ = some u := by
  intro j u hj
  rw [cell_of_block h, ← hj]
  simp
theorem onep (b : Nat) : ∀ u ∈ [Value.pointer (some ⟨b, 0, none⟩)], u.oneCell' = true := by
  intro u hu
  obtain rfl := List.mem_singleton.1 hu
  rfl

theorem enters_read : Enters Tryd.prog 26 := enters_of (fn := Tryd.f26) (by kernel_rfl) (by kernel_rfl) rfl
theorem enters_line : Enters Tryd.prog 22 := enters_of (fn := Tryd.f22) (by kernel_rfl) (by kernel_rfl) rfl
theorem elP : ElemK Tryd.prog 50 57 (.pointer none) 1 8 := ⟨by kernel_rfl, by kernel_rfl, rfl, by decide, by decide⟩

set_option maxHeartbeats 8000000 in
set_option maxRecDepth 100000 in
theorem line_any (w0 : World) (s0 s1 : Nat) (fs : List (ByteArray × ByteArray)) (m : Nat) (wi : List ByteArray) (hR : ReadsAt w0 s0 s1 fs m wi) (s : ByteArray) (v : Value) (ps : List (ByteArray × Pat × Nat)) (inc n : Nat) (w : World)
    (hs : s.size < 4294967281) (hwi : wi.length ≤ 5) (I : IgInv w0 s0 s1 fs wi v ps inc n w) (hps : ps.length ≤ 64) (hinc : inc ≤ 64) (hn : n ≤ 2 * inc + 1) :
    Calls Tryd.prog 22 #[.string s, .int .i64 wi.length, .pointer (some ⟨s1 + 4, 0, none⟩), .pointer (some ⟨s1 + 5, 0, none⟩), .pointer (some ⟨s1 + 1, 0, none⟩)] w
      (IgPost w0 s0 s1 fs wi v inc n 0 w (lineL (fun nm st => readL (fsL fs) m nm (wi.map (·.toList)) st) ⟨ps.map fun x => x.1.toList, inc⟩ (trimT s.toList))) := by
  have HTr := fun w => Lib.hid (trim_any s w (by omega))
  have HRd := Lib.hid hR
  have HPa := fun t w hs => Lib.hid (gparse_any t w hs)
  obtain ⟨t, ht⟩ : ∃ t, t = bsL (trimT s.toList) := ⟨_, rfl⟩
  have htl : t.toList = trimT s.toList := by rw [ht, bsL_toList]
  have htz : t.size ≤ s.size := by rw [← len_toList t, htl, ← len_toList s]; exact trimT_le _
  rw [← ht] at HTr
  rw [← htl]
  have HP1 := fun w => Lib.hid (Tryd.strings_HasPrefix t ⟨#[47, 47]⟩ w)
  have HP2 := fun w => Lib.hid (Tryd.strings_HasPrefix t ⟨#[35, 105, 110, 99, 108, 117, 100, 101, 32]⟩ w)
  rw [show Lib.hasPrefix t.data.toList (⟨#[47, 47]⟩ : ByteArray).data.toList = Lib.hasPrefix t.toList [47, 47] from by rw [Lib.toList_data]] at HP1
  rw [show Lib.hasPrefix t.data.toList (⟨#[35, 105, 110, 99, 108, 117, 100, 101, 32]⟩ : ByteArray).data.toList = Lib.hasPrefix t.toList inclT from by rw [Lib.toList_data]; rfl] at HP2
  clear ht htl hR
  obtain ⟨rd, hrd⟩ : ∃ rd : Txt → RSt → Except Nat RSt, rd = fun nm st => readL (fsL fs) m nm (wi.map (·.toList)) st := ⟨_, rfl⟩
  rw [← hrd]
  have HRD := Lib.hid hrd
  have HI := Lib.hid I
  have kinc := @lineL_incl rd ⟨ps.map fun x => x.1.toList, inc⟩ t.toList
  clear hrd I
  have hsk : (t.toList.isEmpty || Lib.hasPrefix t.toList [47, 47]) = true ∨ (t.toList.isEmpty || Lib.hasPrefix t.toList [47, 47]) = false := by cases (t.toList.isEmpty || Lib.hasPrefix t.toList [47, 47]) <;> simp
  rcases hsk with hsk | hsk
  · have HF := Lib.hid (lineL_skip (rd := rd) (st := ⟨ps.map fun x => x.1.toList, inc⟩) hsk)
    clear kinc
    cases he : t.toList.isEmpty with
    | true =>
      have he2 : t.toList = [] := List.isEmpty_iff.1 he
      clear hsk HP1 HP2
      go_enter Tryd.func22, Tryd.ntmps22
      go_wp2_with fail
      refine ((HTr _).out).mono ?_
      rintro e w1 ⟨rfl, x1⟩
      have HX := Lib.hid x1
      clear x1
      go_wp2_with fail
      go_ret
      exact IgPost.ok HF.out (HI.out.on HX.out) (by omega) (IgStep.of_ext HX.out)
    | false =>
      rw [he, Bool.false_or] at hsk
      rw [hsk] at HP1
      clear hsk HP2
      go_enter Tryd.func22, Tryd.ntmps22
      go_wp2_with fail
      refine ((HTr _).out).mono ?_
      rintro e w1 ⟨rfl, x1⟩
      have HX := Lib.hid x1
      clear x1
      go_wp2_with fail
      refine ((HP1 _).out).mono ?_
      rintro e w2 ⟨rfl, hw2⟩
      obtain rfl := hw2.symm
      go_wp2_with fail
      go_ret
      exact IgPost.ok HF.out (HI.out.on HX.out) (by omega) (IgStep.of_ext HX.out)
  · have he : t.toList.isEmpty = false := (Bool.or_eq_false_iff.1 hsk).1
    rw [(Bool.or_eq_false_iff.1 hsk).2] at HP1
    have HSK := Lib.hid hsk
    clear hsk
    cases hq : Lib.hasPrefix t.toList inclT with
    | true =>
      rw [hq] at HP2
      have h9 : 9 ≤ t.size := by
        have := (List.isPrefixOf_iff_prefix.1 hq).length_le
        rw [len_toList] at this
        exact this
      have HE := Lib.hid (kinc HSK.out hq)
      clear kinc hq
      go_enter Tryd.func22, Tryd.ntmps22
      go_wp2_with fail
      refine ((HTr _).out).mono ?_
      rintro e w1 ⟨rfl, x1⟩
      have HX := Lib.hid x1
      clear x1
      go_wp2_with fail
      refine ((HP1 _).out).mono ?_
      rintro e w2 ⟨rfl, hw2⟩
      obtain rfl := hw2.symm
      go_wp2_with fail
      refine ((HP2 _).out).mono ?_
      rintro e w2 ⟨rfl, hw2⟩
      obtain rfl := hw2.symm
      have HI1 := Lib.hid (HI.out.on HX.out)
      have ci : w1.cell? ⟨s1 + 4, 0, none⟩ = some (.int .i64 inc) := cell_of_block HI1.out.ci
      have fi : w1.frozen? ⟨s1 + 4, 0, none⟩ = false := frozen_of_block HI1.out.ci
      have HI2 := Lib.hid (HI1.out.included (inc + 1))
      have cr := HI2.out.cr
      rw [show ((inc + 1 : Nat) : Int) = (inc : Int) + 1 from by omega] at HI2
      obtain ⟨W2, hW2⟩ : ∃ W2, W2 = w1.setCell ⟨s1 + 4, 0, none⟩ (.int .i64 ((inc : Int) + 1)) := ⟨_, rfl⟩
      rw [← hW2] at HI2
      have CR := After.cell HI2.out.cr
      have HST := Lib.hid (show IgStep s1 v v w W2 from by rw [hW2]; exact (IgStep.of_ext HX.out).trans (IgStep.of_set (by omega)))
      go_wp2_with fail
      rw [← hW2]
      clear hW2 ci fi HTr HPa HP1 HP2
      refine wp_region_after_tail 5 (by kernel_rfl) (by kernel_rfl) ?_
      simp only [List.take_succ_cons, List.take_zero, List.drop_succ_cons, List.drop_zero]
      repeat (go_big_quiet_step (fail))
      refine wpQuiet_nil ?_
      rintro _ ⟨y, rfl⟩
      go_wp2_with fail
      refine (HRd.out (t.extract 9 t.size) v ps (inc + 1) n y.v (by unfold maxLen; simp; omega) (HI2.out.on y.x) hps (by omega) (by omega)).mono ?_
      rintro e w3 hres
      rw [ext_toList] at hres
      have hre : readL (fsL fs) m (t.toList.drop 9) (wi.map (·.toList)) ⟨ps.map fun x => x.1.toList, inc + 1⟩ = lineL rd ⟨ps.map fun x => x.1.toList, inc⟩ t.toList := by rw [HE.out, HRD.out]
      rw [hre] at hres
      clear hre HE HRD
      obtain ⟨RR, hRR⟩ : ∃ RR, RR = lineL rd ⟨ps.map fun x => x.1.toList, inc⟩ t.toList := ⟨_, rfl⟩
      rw [← hRR] at hres
      have HRR := Lib.hid hRR.symm
      clear hRR
      cases RR with
      | error k =>
        obtain ⟨hk, rfl, x3⟩ := hres
        have HK := Lib.hid hk
        have HX3 := Lib.hid x3
        clear hk x3
        go_wp2_with fail
        go_ret
        exact IgPost.err HRR.out HK.out HX3.out
      | ok st =>
        obtain ⟨v', ps', n', rfl, hp', I', hn', S'⟩ := hres
        have HI' := Lib.hid I'
        have HS' := Lib.hid ((HST.out.trans (IgStep.of_ext y.x)).trans S')
        have HP' := Lib.hid hp'
        clear I' S' hp'
        go_wp2_with fail
        go_ret
        refine IgPost.ok (inc' := st.inc) (ps' := ps') (by rw [HRR.out, HP'.out]) HI'.out (by omega) HS'.out
    | false =>
      rw [hq] at HP2
      obtain ⟨av, cv, rfl, hv1, hv2⟩ := own_shape HI.out.own
      unfold maxLen at hv2
      by_cases h64 : ps.length = 64
      · have HF := Lib.hid (lineL_full (rd := rd) (st := ⟨ps.map fun x => x.1.toList, inc⟩) HSK.out hq (by simpa using h64))
        have n64 : ((ps.length : Int) == 64) = true := by rw [h64]; rfl
        clear hq kinc h64
        go_enter Tryd.func22, Tryd.ntmps22
        go_wp2_with fail
        refine ((HTr _).out).mono ?_
        rintro e w1 ⟨rfl, x1⟩
        have HX := Lib.hid x1
        clear x1
        go_wp2_with fail
        refine ((HP1 _).out).mono ?_
        rintro e w2 ⟨rfl, hw2⟩
        obtain rfl := hw2.symm
        go_wp2_with fail
        refine ((HP2 _).out).mono ?_
        rintro e w2 ⟨rfl, hw2⟩
        obtain rfl := hw2.symm
        have HI1 := Lib.hid (HI.out.on HX.out)
        have cl := HI1.out.cl
        have cb : w1.cell? ⟨s1, 0, none⟩ = some (.slice av ps.length cv) := cell_of_block HI1.out.blk
        go_wp2_with fail
        go_ret
        exact IgPost.err HF.out (by decide) HI1.out.ext
      · have n64 : ((ps.length : Int) == 64) = false := beq_eq_false_iff_ne.2 (by omega)
        go_enter Tryd.func22, Tryd.ntmps22
        go_wp2_with fail
        refine ((HTr _).out).mono ?_
        rintro e w1 ⟨rfl, x1⟩
        have HX := Lib.hid x1
        clear x1
        go_wp2_with fail
        refine ((HP1 _).out).mono ?_
        rintro e w2 ⟨rfl, hw2⟩
        obtain rfl := hw2.symm
        go_wp2_with fail
        refine ((HP2 _).out).mono ?_
        rintro e w2 ⟨rfl, hw2⟩
        obtain rfl := hw2.symm
        have HI1 := Lib.hid (HI.out.on HX.out)
        have cl := HI1.out.cl
        have cb : w1.cell? ⟨s1, 0, none⟩ = some (.slice av ps.length cv) := cell_of_block HI1.out.blk
        go_wp2_with fail
        refine ((HPa t _ (by unfold maxLen; omega)).out).mono ?_
        rintro e w2 ⟨x2, hres⟩
        cases hpl : patL t.toList with
        | error k =>
          rw [hpl] at hres
          subst hres
          have HF := Lib.hid (lineL_bad (rd := rd) (st := ⟨ps.map fun x => x.1.toList, inc⟩) HSK.out hq (by simpa using h64) hpl)
          have hk0 : k ≠ 0 := by rcases patL_err hpl with h | h <;> omega
          have n0 : ((k : Int) == 0) = false := beq_eq_false_iff_ne.2 (by omega)
          have HX2 := Lib.hid (HI1.out.ext.trans x2)
          clear hpl hq kinc x2
          go_wp2_with fail
          go_ret
          exact IgPost.err HF.out hk0 HX2.out
        | ok p =>
          rw [hpl] at hres
          obtain ⟨bp, rfl, hpat⟩ := hres
          have HF := Lib.hid (show lineL rd ⟨ps.map fun x => x.1.toList, inc⟩ t.toList = .ok ⟨(ps ++ [(t, p, bp)]).map fun x => x.1.toList, inc⟩ from by
            rw [lineL_pat HSK.out hq (by simpa using h64) hpl, List.map_append]; rfl)
          have HPT := Lib.hid hpl
          have HPA := Lib.hid hpat
          have HX2 := Lib.hid x2
          have HI2 := Lib.hid (HI1.out.on x2)
          have hsz := x2.size
          clear hpl hq kinc x2 hpat cl cb
          have cl := HI2.out.cl
          have cb : w2.cell? ⟨s1, 0, none⟩ = some (.slice av ps.length cv) := cell_of_block HI2.out.blk
          have fb : w2.frozen? ⟨s1, 0, none⟩ = false := frozen_of_block HI2.out.blk
          have hlt : s1 + 1 < w2.heap.size := lt_of_cell cl
          have hlt0 : s1 < w2.heap.size := by omega
          have hz7 := HI2.out.size
          have HW := Lib.hid (show ((w2.alloc (.cells #[.pointer (some ⟨bp, 0, none⟩)] 57)).drew).heap[s1]? = _ from ((((Ext.refl w2).alloc _).drew).block hlt0).trans HI2.out.blk)
          go_wp2_with fail
          go_region_law
            (refine step_append_k elP (s1 + 7) (.slice av ps.length cv) ps.length (ps.map fun x => Value.pointer (some ⟨x.2.2, 0, none⟩)) (owns_ext HI2.out.own ?_) w2.heap.size [.pointer (some ⟨bp, 0, none⟩)] rfl (.tmp 48) (.tmp 50) rfl rfl ?_ ?_ (new1d (t := 57) ?_) (onep bp) ?_ ?_ ?_
             · repeat (first | exact Ext.refl _ | refine Ext.alloc ?_ _ | refine Ext.drew ?_)
             · simp [Act.eval]
             · simp [Act.eval]
             · exact heap_new_drew rfl
             · omega
             · simp; omega
             intro v' w3 hown3 hgr3 hrow3 hwh3
             obtain ⟨g3, cap3, rfl, _⟩ := hrow3
             have hb3 := (hgr3.block s1 (by simp; omega) (fun e => by have := own_block_ge_k HI2.out.own _ e.symm; omega)).trans HW.out
             have f53 : w3.frozen? ⟨s1, 0, none⟩ = false := frozen_of_block hb3
             have c53 : w3.cell? ⟨s1, 0, none⟩ = some (.slice av ps.length cv) := cell_of_block hb3
             have c13 : w3.cell? ⟨s1 + 1, 0, none⟩ = some (.pointer (some ⟨s1, 0, none⟩)) := (World.cell?_of_block (hgr3.block (s1 + 1) (by simp; omega) (fun e => by have := own_block_ge_k HI2.out.own _ e.symm; omega))).trans ((((Ext.refl w2).alloc _).drew.cell hlt).trans cl)
             have HPU := Lib.hid (IgInv.pushed (t := t) (p := p) (bp := bp) HI1.out ((HX2.out.alloc _).drew) (HPA.out.ext (((Ext.refl w2).alloc _).drew)) HPT.out hown3 hgr3 hwh3)
             clear hown3 hgr3 hwh3 hb3)
          all_goals
            go_wp2_with fail
            go_ret
            exact IgPost.ok HF.out HPU.out.1 (by omega) ((IgStep.of_ext HX.out).trans HPU.out.2)

end Go.Proofs.YtlabhbeacogfbaaDoor
