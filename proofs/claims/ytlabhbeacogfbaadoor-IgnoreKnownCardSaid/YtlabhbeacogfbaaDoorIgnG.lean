/- Contract of the function that reads, within caravan/ignore Parse. Printed by gen_ignf.py. -/
import Derived.Test.YtlabhbeacogfbaaDoorIgnF
namespace Go.Proofs.YtlabhbeacogfbaaDoor
open Go.RowKit

theorem zText (w : World) : (zeroValue 42).run Tryd.prog w = .ok (.agg #[.string ByteArray.empty, .string ByteArray.empty]) w := by kernel_rfl
theorem zInt (w : World) : (zeroValue 3).run Tryd.prog w = .ok (.int .i64 0) w := by kernel_rfl
theorem step_env {w0 w : World} (E : Env w0) (x : Ext w0 w) : Env w := E.ext x
theorem lineL_small {fs : List (Txt × Txt)} {m : Nat} {wi : List Txt} {rd : Txt → RSt → Except Nat RSt} (hrd : rd = fun nm st => readL fs m nm wi st) {st st' : RSt} {s : Txt} (h : st.inc ≤ 64 ∧ st.pats.length ≤ 64) (e : lineL rd st s = .ok st') : st'.inc ≤ 64 ∧ st'.pats.length ≤ 64 := by
  unfold lineL at e
  split at e
  · cases e; exact h
  · split at e
    · rw [hrd] at e; exact readL_small fs m _ _ ⟨st.pats, st.inc + 1⟩ st' h.2 e
    · split at e
      · cases e
      · rename_i h64
        split at e
        · cases e
        · cases e
          have : st.pats.length ≠ 64 := by simpa using h64
          exact ⟨h.1, by simp; omega⟩
theorem contains_app (l : List Txt) (n x : Txt) : (l ++ [n]).contains x = (l.contains x || x == n) := by
  rw [Bool.eq_iff_iff, Bool.or_eq_true, List.contains_iff_mem, List.contains_iff_mem, List.mem_append, List.mem_singleton, beq_iff_eq]

set_option maxHeartbeats 8000000 in
set_option maxRecDepth 100000 in
theorem read_any (w0 : World) (s0 s1 : Nat) (fs : List (ByteArray × ByteArray)) (hfs : ∀ f ∈ fs, f.2.size < 4294967281) : ∀ (m : Nat) (wi : List ByteArray), 1 ≤ m → wi.length + m = 5 → ReadsAt w0 s0 s1 fs m wi := by
  intro m
  induction m with
  | zero => intro wi h; exact absurd h (by decide)
  | succ m ih =>
    intro wi _ hm name v ps inc n w hname I hps hinc hn
    have IH := Lib.hid ih
    have HI := Lib.hid I
    have E := step_env I.env I.ext
    have HSp := fun s w hs E => Lib.hid (splitNewline s w hs E)
    obtain ⟨kt, hkt⟩ := I.texts
    obtain ⟨fo, hfo, hfo2⟩ := I.opens
    have rt := hkt.look_ok Tryd.underlying48 (zText w) name hname
    have ro := fun (x : World) (hx : MapAt x (s1 + 2) n fo) => hx.look Tryd.underlying53 (zInt x) name hname
    have hgo := hfo2 name hname
    have ct := I.ct
    have co := I.co
    have ci : w.cell? ⟨s1 + 4, 0, none⟩ = some (.int .i64 inc) := cell_of_block I.ci
    have hsz := I.size
    have hord := I.ord
    have l3 : s1 + 3 < w.heap.size := by omega
    have l4 : s1 + 4 < w.heap.size := by omega
    have HFO := Lib.hid hfo
    have HFO2 := Lib.hid hfo2
    have HFS := Lib.hid hfs
    clear ih I hkt hfo hfo2 hfs
    have hfl := findB_list fs name
    cases hf : findB fs name with
    | none =>
      rw [hf] at rt hfl
      have HF := Lib.hid (readL_none (n := m) (within := wi.map (·.toList)) (st := ⟨ps.map fun x => x.1.toList, inc⟩) hfl)
      have rt2 : (Instr.lookup 48 (.map (some s0)) (.string name) true).run Tryd.prog w = .ok (.tuple #[.agg #[.string ByteArray.empty, .string ByteArray.empty], .bool false]) w := rt
      clear hf hfl rt ro hgo
      go_enter Tryd.func26, Tryd.ntmps26
      go_wp2_with fail
      go_ret
      exact IgPost.err HF.out (by decide) (HI.out.ext.alloc _)
    | some f =>
      rw [hf] at rt hfl
      have hfm := findB_name hf
      have rt2 : (Instr.lookup 48 (.map (some s0)) (.string name) true).run Tryd.prog w = .ok (.tuple #[.agg #[.string f.1, .string f.2], .bool true]) w := rt
      have hfz := HFS.out f hfm
      have HFL := Lib.hid (show findL (fsL fs) name.toList = some f.2.toList from hfl)
      clear hf hfl rt hfm HFS
      cases hc : (wi.map (·.toList)).contains name.toList with
      | true =>
        rw [hc] at hgo
        have HF := Lib.hid (readL_busy (n := m) (st := ⟨ps.map fun x => x.1.toList, inc⟩) HFL.out hc)
        have ro2 := ro (w.alloc (.cells #[.string f.1, .string f.2] 42)) (HFO.out.ext ((Ext.refl w).alloc _))
        rw [hgo] at ro2
        clear hc hgo ro
        go_enter Tryd.func26, Tryd.ntmps26
        go_wp2_with fail
        go_ret
        exact IgPost.err HF.out (by decide) (HI.out.ext.alloc _)
      | false =>
        rw [hc] at hgo
        have ro2 := ro (w.alloc (.cells #[.string f.1, .string f.2] 42)) (HFO.out.ext ((Ext.refl w).alloc _))
        rw [hgo] at ro2
        have HCT := Lib.hid hc
        clear hgo ro hc
        by_cases h4 : 4 < wi.length + 1
        · have HF := Lib.hid (readL_long (n := m) (st := ⟨ps.map fun x => x.1.toList, inc⟩) HFL.out HCT.out (.inl (by simpa using h4)))
          have d4 : decide ((4 : Int) < (wi.length : Int) + 1) = true := by rw [decide_eq_true_eq]; omega
          go_enter Tryd.func26, Tryd.ntmps26
          go_wp2_with fail
          go_ret
          exact IgPost.err HF.out (by decide) (HI.out.ext.alloc _)
        · have d4 : decide ((4 : Int) < (wi.length : Int) + 1) = false := by rw [decide_eq_false_iff_not]; omega
          by_cases h64 : 64 < inc
          · have HF := Lib.hid (readL_long (n := m) (st := ⟨ps.map fun x => x.1.toList, inc⟩) HFL.out HCT.out (.inr h64))
            have d5 : decide ((64 : Int) < (inc : Int)) = true := by rw [decide_eq_true_eq]; omega
            go_enter Tryd.func26, Tryd.ntmps26
            go_wp2_with fail
            go_ret
            exact IgPost.err HF.out (by decide) (HI.out.ext.alloc _)
          · have d5 : decide ((64 : Int) < (inc : Int)) = false := by rw [decide_eq_false_iff_not]; omega
            have HF := Lib.hid (readL_go (n := m) (st := ⟨ps.map fun x => x.1.toList, inc⟩) HFL.out HCT.out (by simp; omega) (by show inc ≤ 64; omega))
            have l5 : s1 + 6 < w.heap.size := by omega
            obtain ⟨W1, hW1⟩ : ∃ W1, W1 = w.alloc (.cells #[.string f.1, .string f.2] 42) := ⟨_, rfl⟩
            have hx1 : Ext w W1 := hW1 ▸ (Ext.refl w).alloc _
            obtain ⟨w2, hup, hM2, hg2, hz2⟩ := (HFO.out.ext hx1).store Tryd.underlying53 (by unfold maxLen; omega) name hname (.int .i64 1)
            rw [hW1] at hup
            have hI2 : IgInv w0 s0 s1 fs (wi ++ [name]) v ps inc (n + 1) w2 := (HI.out.on hx1).mapped hg2 ⟨_, hM2, fun x hx => by
              rw [List.map_append, List.map_cons, List.map_nil, contains_app]
              by_cases e : x = name
              · subst e; rw [if_pos rfl]; simp
              · rw [if_neg e, HFO2.out x hx, show (x.toList == name.toList) = false from by simpa using fun q => e (ba_ext q), Bool.or_false]⟩
            have b9 : w2.heap[w.heap.size]? = some (.cells #[.string f.1, .string f.2] 42 (0, 0)) := by
              rw [hg2.block w.heap.size (by rw [hW1]; simp) (fun e => by have := Option.some.inj e; omega), hW1]; exact heap_alloc_new _ _
            have c9 : w2.cell? ⟨w.heap.size, 1, none⟩ = some (.string f.2) := cell_of_block b9
            have HST := Lib.hid (show IgStep s1 v v w w2 from (IgStep.of_ext hx1).trans (IgStep.of_map hg2))
            have HI2 := Lib.hid hI2
            have E2 : Env w2 := step_env HI.out.env hI2.ext
            have hws : w.heap.size ≤ w2.heap.size := by rw [hz2, hW1]; simp
            clear hM2 hg2 hz2 hI2 b9 hx1 hW1 HFO HFO2
            go_enter Tryd.func26, Tryd.ntmps26
            go_wp2_with fail
            refine ((HSp f.2 w2 hfz E2).out).mono ?_
            rintro e w3 ⟨rfl, hw3⟩
            have hx3 : Ext w2 w3 := hw3 ▸ (Ext.refl w2).alloc _
            have hb3 : w3.heap[w2.heap.size]? = some (.cells ((nlOf f.2).map Value.string).toArray 9 (0, 0)) := by rw [hw3]; exact heap_alloc_new _ _
            have hnl := nlOf_len f.2
            have hnz := nlOf_sizes f.2
            have hls := nlOf_lines f.2
            obtain ⟨ls, hlsd⟩ : ∃ ls, ls = nlOf f.2 := ⟨_, rfl⟩
            rw [← hlsd] at hb3 hnl hnz hls ⊢
            obtain ⟨rd, hrd⟩ : ∃ rd : Txt → RSt → Except Nat RSt, rd = fun nm st => readL (fsL fs) m nm ((wi ++ [name]).map (·.toList)) st := ⟨_, rfl⟩
            obtain ⟨RR, hRR⟩ : ∃ RR, RR = readL (fsL fs) (m + 1) name.toList (wi.map (·.toList)) ⟨ps.map fun x => x.1.toList, inc⟩ := ⟨_, rfl⟩
            have HEQ := Lib.hid hRR.symm
            have HF1 := Lib.hid (show RR = foldL (lineL rd) ⟨ps.map fun x => x.1.toList, inc⟩ (ls.map fun x => trimT x.toList) from by rw [hRR, HF.out, hrd, hls, List.map_append]; rfl)
            have HRD := Lib.hid hrd
            have HI3 := Lib.hid (HI2.out.on hx3)
            have HS3 := Lib.hid (HST.out.trans (IgStep.of_ext hx3))
            have HB3 := Lib.hid hb3
            have HNZ := Lib.hid hnz
            have HFAR := Lib.hid (show FarV s1 v w2.heap.size from ⟨by omega, fun e => by have := (HI2.out.own.lt _ e.symm).2; omega⟩)
            have HRA := Lib.hid (IH.out (wi ++ [name]) (by omega) (by simp; omega))
            have hlen : (wi ++ [name]).length = wi.length + 1 := by simp
            have HLN := Lib.hid hlen
            clear hw3 hx3 hb3 hnz hls hlsd hrd hRR HF HST HI2 IH HSp hup rt2 ro2 ct co ci c9 hlen E E2
            generalize w2.heap.size = gL at *
            go_wp2_with fail
            go_loopw [43] (fun iv wr => Hid (∃ (k : Nat) (v' : Value) (ps' : List (ByteArray × Pat × Nat)) (ic n' : Nat), k ≤ ls.length ∧ iv = .int .i64 k ∧ RR = foldL (lineL rd) ⟨ps'.map fun x => x.1.toList, ic⟩ ((ls.drop k).map fun x => trimT x.toList) ∧ ps'.length ≤ 64 ∧ ic ≤ 64 ∧ n' + 2 * inc ≤ n + 1 + 2 * ic ∧
              IgInv w0 s0 s1 fs (wi ++ [name]) v' ps' ic n' wr ∧ IgStep s1 v v' w wr ∧ FarV s1 v' gL ∧ wr.heap[gL]? = some (.cells (ls.map Value.string).toArray 9 (0, 0)))) (fun iv _ => ls.length - (intOf iv).toNat)
            case atStart => exact ⟨0, v, ps, inc, n + 1, Nat.zero_le _, rfl, HF1.out, hps, by omega, by omega, HI3.out, HS3.out, HFAR.out, HB3.out⟩
            case round =>
              obtain ⟨k, v', ps', ic, n', hk, rfl, hR, hps', hic, hn', I, S, hfar, hb⟩ := hrel.out
              clear hrel HI3 HS3 HFAR HB3 HF1
              have HRR := Lib.hid hR
              have HI := Lib.hid I
              have HS := Lib.hid S
              have HB := Lib.hid hb
              have HFAR := Lib.hid hfar
              clear hR I S hb hfar
              by_cases hlt : k < ls.length
              · obtain ⟨x, hx⟩ : ∃ x, ls[k]? = some x := ⟨_, List.getElem?_eq_getElem hlt⟩
                have hdr : ls.drop k = x :: ls.drop (k + 1) := by
                  obtain ⟨h1, h2⟩ := List.getElem?_eq_some_iff.1 hx
                  rw [List.drop_eq_getElem_cons h1, h2]
                rw [hdr, List.map_cons] at HRR
                have hxz := HNZ.out x (List.mem_of_getElem? hx)
                have c1 : wr.cell? ⟨gL, k, none⟩ = some (.string x) := (cell_of_block HB.out).trans (by simp [hx])
                have cn := HI.out.cn
                clear hx hdr
                go_wp2_with fail
                have HL1 := line_any w0 s0 s1 fs m (wi ++ [name]) HRA.out x v' ps' ic n' wr (by omega) (by rw [HLN.out]; omega) HI.out hps' hic (by omega)
                rw [HLN.out, ← HRD.out] at HL1
                have HL1 := Lib.hid HL1
                refine HL1.out.mono ?_
                clear HL1
                rintro e w4 hres
                obtain ⟨RL, hRL⟩ : ∃ RL, RL = lineL rd ⟨ps'.map fun x => x.1.toList, ic⟩ (trimT x.toList) := ⟨_, rfl⟩
                rw [← hRL] at hres
                cases RL with
                | error ke =>
                  obtain ⟨hk0, rfl, hx4⟩ := hres
                  have HF2 := Lib.hid (HRR.out.trans (foldL_err hRL.symm))
                  have n0 : ((ke : Int) != 0) = true := by rw [bne, beq_eq_false_iff_ne.2 (by omega)]; rfl
                  have HK0 := Lib.hid hk0
                  have HX4 := Lib.hid hx4
                  clear hRL HRR hk0 hx4
                  go_wp2_with fail
                  go_ret
                  exact IgPost.err (HEQ.out.trans HF2.out) HK0.out HX4.out
                | ok st =>
                  obtain ⟨v'', ps'', n'', rfl, hp'', I'', hn'', S''⟩ := hres
                  have hsm := lineL_small HRD.out ⟨hic, by rw [List.length_map]; exact hps'⟩ hRL.symm
                  have HN := Lib.hid (show RR = foldL (lineL rd) ⟨ps''.map fun x => x.1.toList, st.inc⟩ ((ls.drop (k + 1)).map fun x => trimT x.toList) from by rw [HRR.out, foldL_ok hRL.symm, hp''])
                  have hl'' : ps''.length ≤ 64 := by rw [← List.length_map (f := fun x : ByteArray × Pat × Nat => x.1.toList), hp'']; exact hsm.2
                  have hi'' := hsm.1
                  have HI4 := Lib.hid I''
                  have HS4 := Lib.hid (HS.out.trans S'')
                  have hgl := lt_of_block HB.out
                  have HFAR4 := Lib.hid (S''.far gL hgl HFAR.out)
                  have HB4 := Lib.hid ((S''.stays.block gL HFAR.out hgl).trans HB.out)
                  have hnn : n'' + 2 * inc ≤ n + 1 + 2 * st.inc := by omega
                  clear hRL HRR I'' S'' hp'' hsm hgl hn'' HI HS HB HFAR cn c1 hn'
                  obtain ⟨si, hsi⟩ : ∃ si, si = st.inc := ⟨_, rfl⟩
                  rw [← hsi] at HN hi'' HI4 hnn
                  clear hsi
                  go_wp2_with fail
                  go_roundw
                  case rel => exact ⟨k + 1, v'', ps'', si, n'', by omega, by go_num, HN.out, hl'', hi'', hnn, HI4.out, HS4.out, HFAR4.out, HB4.out⟩
                  case measure => simp [intOf] <;> omega
              · obtain rfl : k = ls.length := by omega
                have HF2 := Lib.hid (show RR = .ok ⟨ps'.map fun x => x.1.toList, ic⟩ from by rw [HRR.out, List.drop_length]; rfl)
                obtain ⟨fo, hfo, hfo2⟩ := HI.out.opens
                have hl1 := hfo.look Tryd.underlying53 (zInt wr) name hname
                rw [hfo2 name hname, List.map_append, List.map_cons, List.map_nil, contains_app, show (name.toList == name.toList) = true from by simp, Bool.or_true] at hl1
                have co := HI.out.co
                obtain ⟨w5, hup, hM5, hg5, hz5⟩ := hfo.store Tryd.underlying53 (by unfold maxLen; omega) name hname (.int .i64 0)
                have HI5 := Lib.hid (HI.out.mapped (wi' := wi) hg5 ⟨_, hM5, fun x hx => by
                  by_cases e : x = name
                  · subst e; rw [if_pos rfl, HCT.out]; rfl
                  · rw [if_neg e, hfo2 x hx, List.map_append, List.map_cons, List.map_nil, contains_app, show (x.toList == name.toList) = false from by simpa using fun q => e (ba_ext q), Bool.or_false]⟩)
                have HS5 := Lib.hid (HS.out.trans (IgStep.of_map hg5))
                have nlt : decide ((ls.length : Int) < (ls.length : Int)) = false := by simp
                clear HRR hfo hfo2 hM5 hg5 hz5
                go_wp2_with fail
                go_ret
                exact IgPost.ok (HEQ.out.trans HF2.out) HI5.out (by omega) HS5.out
end Go.Proofs.YtlabhbeacogfbaaDoor
