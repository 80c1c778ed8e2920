/- Contracts of caravanref08's Parse and Match. Printed by gen_ignd.py. -/
import Derived.Test.YtlabhbeacogfbaaDoorIgnC
import Derived.Test.YtlabhbeacogfbaaDoorRefB
namespace Go.Proofs.YtlabhbeacogfbaaDoor
open Go.RowKit

theorem elementsL_len : ∀ {n : Nat} {acc es : List GE} {s : List UInt8}, elementsL n acc s = some es → es.length ≤ acc.length + s.length
  | 0, _, _, _, h => by cases h
  | n + 1, acc, es, s, h => by
    unfold elementsL at h
    split at h
    · cases h; omega
    · split at h
      · cases h
      · rename_i he
        have h1 := elementsL_len h
        have h2 := elementL_lt he
        simp at h1
        omega
theorem patL_len {s : List UInt8} {p : Pat} (h : patL s = .ok p) : p.es.length ≤ 128 := by
  unfold patL at h
  split at h
  · cases h
  · rename_i hl
    split at h
    · cases h
    · rename_i hm
      split at h
      · cases h
      · split at h
        · cases h
        · rename_i he
          cases h
          have h1 := elementsL_len he
          have h2 := marksL_le hm
          have h3 := rootL_le (by assumption)
          simp only
          simp at h1
          omega
theorem RParPost_len {s : List UInt8} {p : Pat} (h : patL s = .ok p) (l : List (GE × Array Value)) (hl : l.map (·.1) = p.es) : l.length ≤ 1024 := by
  have := patL_len h
  rw [← hl, List.length_map] at this
  omega

/-- What the first of some patterns that matches says. -/
def firstL : List Txt → Txt → Bool × Bool
  | [], _ => (false, false)
  | t :: ts, s => match patL t with
    | .error _ => firstL ts s
    | .ok p => if matchL p s then (!p.marks.neg, !p.marks.neg && p.marks.del) else firstL ts s
def matchesL (ts : List Txt) (s : ByteArray) : Bool × Bool := if mayB s then firstL ts s.toList else (false, false)
theorem firstL_hit {t : Txt} {ts : List Txt} {s : Txt} {p : Pat} (h : patL t = .ok p) (hm : matchL p s = true) : firstL (t :: ts) s = (!p.marks.neg, !p.marks.neg && p.marks.del) := by rw [firstL, h]; simp only [hm, if_true]
theorem firstL_miss {t : Txt} {ts : List Txt} {s : Txt} {p : Pat} (h : patL t = .ok p) (hm : matchL p s = false) : firstL (t :: ts) s = firstL ts s := by rw [firstL, h]; simp [hm]

def RefParsePost (w : World) (R : Except Nat (List Txt)) (e : Ending) (w' : World) : Prop := Ext w w' ∧ (match R with
  | .error k => k ≠ 0 ∧ e = .returned (.tuple #[.slice none 0 0, .int .i64 (k : Nat)])
  | .ok ts => ∃ (v : Value) (pats : List ByteArray), e = .returned (.tuple #[v, .int .i64 0]) ∧ pats.map (·.toList) = ts ∧ CellsAt w' v (pats.map Value.string))

set_option maxHeartbeats 1000000 in
theorem refParse_any (v0 : Value) (fs : List (ByteArray × ByteArray)) (name : ByteArray) (w : World) (hT : TextsAt w v0 fs) (hfs : ∀ f ∈ fs, f.2.size ≤ 4096) :
    Calls Tryd.prog 12 #[v0, .string name] w (RefParsePost w (parseL (fsL fs) name.toList)) := by
  have HRd := Lib.hid (rread_any w v0 fs hT hfs 5 name [] [] 0 (.slice none 0 0) (.slice none 0 0) w (by decide) rfl (Ext.refl w) (.inl ⟨rfl, rfl⟩) (World.ownsRow_nil _ _ _ _) (fun g hg => by cases hg) (by decide) (by decide))
  have HP := Lib.hid (show parseL (fsL fs) name.toList = match readL (fsL fs) 5 name.toList [] ⟨[], 0⟩ with | .error k => .error k | .ok st => .ok st.pats from rfl)
  go_enter Tryd.func12, Tryd.ntmps12
  go_wp2_with fail
  refine HRd.out.mono ?_
  rintro e w1 ⟨hg, hres⟩
  have HX := Lib.hid (show Ext w w1 from (Ext.refl w).grown hg (Nat.le_refl _) (fun k hk => by cases hk))
  have hpp := HP.out
  clear hg
  simp only [List.map_nil] at hres
  cases hr : readL (fsL fs) 5 name.toList [] ⟨[], 0⟩ with
  | error k =>
    rw [hr] at hres hpp
    obtain ⟨hk, v, i, rfl⟩ := hres
    have n0 : ((k : Int) != 0) = true := by rw [bne, beq_eq_false_iff_ne.2 (by omega)]; rfl
    have HPP := Lib.hid hpp
    have HK := Lib.hid hk
    clear hr hpp hk HRd HP
    go_wp2_with fail
    go_ret2
    refine ⟨HX.out, ?_⟩
    rw [HPP.out]
    exact ⟨HK.out, rfl⟩
  | ok st =>
    rw [hr] at hres hpp
    obtain ⟨v, pats, rfl, hp, ho, _⟩ := hres
    have HPP := Lib.hid hpp
    have HO := Lib.hid ho
    have HQ := Lib.hid hp
    clear hr hpp hp ho HRd HP
    go_wp2_with fail
    go_ret2
    refine ⟨HX.out, ?_⟩
    rw [HPP.out]
    exact ⟨v, pats, rfl, HQ.out, CellsAt.of_owns (base := w.heap.size) (e := 9) (by rw [List.length_map]; exact HO.out)⟩

set_option maxHeartbeats 4000000 in
set_option maxRecDepth 100000 in
theorem refMatch_any (v : Value) (pats : List ByteArray) (s : ByteArray) (w : World) (hs : s.size < 4294967281) (hv : CellsAt w v (pats.map Value.string)) (hp : ∀ t ∈ pats, t.size ≤ maxLen ∧ ∃ p, patL t.toList = .ok p) :
    Calls Tryd.prog 18 #[v, .string s] w fun e w' => e = .returned (.tuple #[.bool (matchesL (pats.map (·.toList)) s).1, .bool (matchesL (pats.map (·.toList)) s).2]) ∧ Ext w w' := by
  have HMay := fun w => Lib.hid (refMay_any s w hs)
  have HPa := fun t w hs => Lib.hid (rparse_any t w hs)
  have HP := Lib.hid hp
  obtain ⟨a, cap, rfl, h1, h2, h3⟩ := hv.shape
  rw [List.length_map] at h1 ⊢
  unfold maxLen at h2
  have H3 := Lib.hid h3
  have HM := Lib.hid (show matchesL (pats.map (·.toList)) s = if mayB s then firstL (pats.map (·.toList)) s.toList else (false, false) from rfl)
  clear hv h3 hp
  generalize matchesL (pats.map (·.toList)) s = M at *
  cases hm : mayB s with
  | false =>
    rw [hm] at HMay
    have HF := Lib.hid (show M = (false, false) from by rw [HM.out, hm]; rfl)
    clear HM hm HPa
    go_enter Tryd.func18, Tryd.ntmps18
    go_wp2_with fail
    refine ((HMay _).out).mono ?_
    rintro e w1 ⟨rfl, hx⟩
    have HX := Lib.hid hx
    clear hx
    go_wp2_with fail
    go_ret2
    rw [HF.out]
    exact ⟨rfl, HX.out⟩
  | true =>
    rw [hm] at HMay
    have HF := Lib.hid (show M = firstL (pats.map (·.toList)) s.toList from by rw [HM.out, hm]; rfl)
    clear HM hm
    go_enter Tryd.func18, Tryd.ntmps18
    go_wp2_with fail
    refine ((HMay _).out).mono ?_
    rintro e w1 ⟨rfl, hx⟩
    have HX := Lib.hid hx
    clear hx
    go_wp2_with fail
    go_loopw [6] (fun iv wr => Hid (∃ k : Nat, k ≤ pats.length ∧ iv = .int .i64 k ∧ M = firstL ((pats.drop k).map (·.toList)) s.toList ∧ Ext w wr)) (fun iv _ => pats.length - (intOf iv).toNat)
    case atStart => exact ⟨0, Nat.zero_le _, rfl, HF.out, HX.out⟩
    case round =>
      obtain ⟨k, hk, rfl, hM, hx⟩ := hrel.out
      clear hrel HX HF
      have HF := Lib.hid hM
      have HX := Lib.hid hx
      by_cases hlt : k < pats.length
      · obtain ⟨t, ht⟩ : ∃ t, pats[k]? = some t := ⟨_, List.getElem?_eq_getElem hlt⟩
        have hdr : pats.drop k = t :: pats.drop (k + 1) := by
          obtain ⟨h1, h2⟩ := List.getElem?_eq_some_iff.1 ht
          rw [List.drop_eq_getElem_cons h1, h2]
        rw [hdr, List.map_cons] at HF
        obtain ⟨g, rfl, c1⟩ := H3.out k (.string t) (by rw [List.getElem?_map, ht]; rfl)
        have c2 := (hx.cell (lt_of_cell c1)).trans c1
        obtain ⟨hts, p, hpt⟩ := HP.out t (List.mem_of_getElem? ht)
        clear c1 hx hM hdr ht
        go_wp2_with fail
        refine ((HPa t _ hts).out).mono ?_
        rintro e w2 ⟨⟨mm, rr, pa, pn, pc, pk, rfl, hres⟩, x2⟩
        rw [hpt] at hres
        obtain ⟨rfl, hmm, hrr, l, hl, hel⟩ := hres
        subst hmm
        subst hrr
        have HMt := fun (w3 : World) (x3 : Ext w2 w3) => Lib.hid (rmatch_any p (.slice pa pn pc) l s _ w3 (by unfold maxLen; omega) (RParPost_len hpt l hl) hl (hel.ext x3))
        unfold patV at HMt
        have HX2 := Lib.hid (HX.out.trans x2)
        have HPT := Lib.hid hpt
        clear x2 hel hl hpt HX
        go_wp2_with fail
        refine ((HMt _ ((Ext.refl w2).alloc _)).out).mono ?_
        rintro e w3 ⟨rfl, x3⟩
        have hb3 : w3.heap[w2.heap.size]? = _ := (x3.block (by simp)).trans (heap_alloc_new _ _)
        obtain ⟨⟨z0, z1, z2, z3, z4⟩, _⟩ := quint hb3
        have HX3 := Lib.hid ((HX2.out.alloc _).trans x3)
        clear x3 hb3 HMt HX2
        cases hmt : matchL p s.toList with
        | true =>
          have HR := Lib.hid (HF.out.trans (firstL_hit HPT.out hmt))
          clear hmt HF
          cases hn : p.marks.neg with
          | true =>
            rw [hn] at z0 HR
            go_wp2_with fail
            go_quiet (fail)
            go_wp2_with fail
            go_ret2
            rw [HR.out]
            exact ⟨rfl, HX3.out.drewN _⟩
          | false =>
            rw [hn] at z0 HR
            go_wp2_with fail
            go_quiet (fail)
            go_wp2_with fail
            go_ret2
            rw [HR.out]
            exact ⟨rfl, HX3.out.drewN _⟩
        | false =>
          have HN := Lib.hid (HF.out.trans (firstL_miss HPT.out hmt))
          clear hmt HF
          go_wp2_with fail
          go_roundw
          case rel => exact ⟨k + 1, by omega, by go_num, HN.out, HX3.out⟩
          case measure => simp [intOf] <;> omega
      · obtain rfl : k = pats.length := by omega
        have HR := Lib.hid (show M = (false, false) from by rw [HF.out, List.drop_length]; rfl)
        have nlt : decide ((pats.length : Int) < (pats.length : Int)) = false := by simp
        clear hM hx
        go_wp2_with fail
        go_ret2
        rw [HR.out]
        exact ⟨rfl, HX.out⟩
end Go.Proofs.YtlabhbeacogfbaaDoor
