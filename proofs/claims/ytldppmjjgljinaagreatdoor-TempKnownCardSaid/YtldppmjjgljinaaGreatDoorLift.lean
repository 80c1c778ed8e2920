/- From a walk to a given row, once for every law of this seat: a law whose walk returns true and leaves all that was there as it was meets its row. -/
import Derived.Test.YtldppmjjgljinaaGreatDoorRows
import Derived.Test.YtldppmjjgljinaaGreatDoorTie
import Derived.Test.YtldppmjjgljinaaGreatDoorCards
import Derived.Test.YtldppmjjgljinaaGreatDoorBase
import Derived.ProofKit
import Derived.OpenShut
import Derived.LaidMore
import Derived.Lay
import Derived.Handed
import Derived.LaidLaws
import Derived.Shelf.Vars
import Derived.SevenTiedAt
import Derived.Stop.Joined
import Derived.MakeChecks
namespace Go.Proofs.YtldppmjjgljinaaGreatDoor
open Go.ChangeShapes Go.WideShapes Go.ChangeAt Go.RowKit

theorem own : ownKnob Tryz.prog.godebug = none := by kernel_rfl
theorem laidOut_ok : laidOutB Tryz.prog = true := by kernel_rfl

/-- All arguments read behind the call as they read before, where nothing that was there has turned. -/
theorem trodAll_stays {H : Type} {enc : TypeId × Value → H} {W W' : World} (hb : Below W.heap.size W W') : ∀ {ts : List TypeId} {vs : List Value} {ds : List (DataW H)} {ps : List MemPlace},
    (∀ t ∈ ts, Tryz.prog.readableRec t = true ∧ t < Tryz.prog.types.size) → DataW.TrodAll enc Tryz.prog W 0 (fun _ => true) true ts vs ds ps → (∀ p ∈ ps, p.block < W.heap.size) →
    DataW.TrodAll enc Tryz.prog W' 0 (fun b => decide (b < W.heap.size)) true ts vs ds ps
  | [], [], [], _, _, h, _ => h
  | t :: ts, v :: vs, d :: ds, ps, hr, h, hlt => by
    obtain ⟨p, q, h1, h2, rfl⟩ := h
    exact ⟨p, q, Below.trod laidOut_ok (hr t (by simp)).1 (hr t (by simp)).2 h1 hb (fun x hx => hlt x (by simp [hx])), trodAll_stays hb (fun t ht => hr t (by simp [ht])) h2 (fun x hx => hlt x (by simp [hx])), rfl⟩
  | [], [], _ :: _, _, _, h, _ => absurd h (by simp [DataW.TrodAll])
  | [], _ :: _, _, _, _, h, _ => absurd h (by simp [DataW.TrodAll])
  | _ :: _, [], _, _, _, h, _ => absurd h (by simp [DataW.TrodAll])
  | _ :: _, _ :: _, [], _, _, h, _ => absurd h (by simp [DataW.TrodAll])

theorem trodAll_len {H : Type} {enc : TypeId × Value → H} {W : World} {base : Nat} {sp : Nat → Bool} {held : Bool} : ∀ {ts : List TypeId} {vs : List Value} {ds : List (DataW H)} {ps : List MemPlace},
    DataW.TrodAll enc Tryz.prog W base sp held ts vs ds ps → ts.length = ds.length
  | [], [], [], _, _ => rfl
  | _ :: _, _ :: _, _ :: _, _, ⟨_, _, _, h2, _⟩ => by simp [trodAll_len h2]
  | [], [], _ :: _, _, h => absurd h (by simp [DataW.TrodAll])
  | [], _ :: _, _, _, h => absurd h (by simp [DataW.TrodAll])
  | _ :: _, [], _, _, h => absurd h (by simp [DataW.TrodAll])
  | _ :: _, _ :: _, [], _, h => absurd h (by simp [DataW.TrodAll])

/-- What a walk is handed of its arguments and of memory. -/
structure Start {H : Type} (enc : TypeId × Value → H) (laid : List (String × DataW Unit)) (fn : Func) (W : World) (args : Array Value) (ds : List (DataW H)) (p : List MemPlace) : Prop where
  vals : ∃ base, ∀ (j : Nat) t v, fn.params[j]? = some t → args[j]? = some v → Value.okWide Tryz.prog W .any base t v
  trod : DataW.TrodAll enc Tryz.prog W 0 (fun _ => true) true fn.params.toList args.toList ds p
  fit : (DataW.weightsEach Tryz.prog fn.params.toList ds).all (· ≤ reachBytes) = true
  laid : laidMet Tryz.prog laid W
  shaped : W.ShapedOpen Tryz.prog

set_option maxRecDepth 100000 in
theorem lifted (laid : List (String × DataW Unit)) (hplain : (laid.all fun x => x.2.handleName?.isNone) = true) (f : FuncId) (fn : Func) (hfn : Tryz.prog.funcs[f]? = some fn) (s : ChangeSpec) (hvars : s.vars = [])
    (hres : fn.resultTypes = #[4]) (hin : Tryz.prog.inits.idxOf? f = none) (hp : ∀ t ∈ fn.params.toList, Tryz.prog.readableRec t = true ∧ t < Tryz.prog.types.size)
    (hs : ∀ (H : Type) (ts : List TypeId) (ds : List (DataW H)), ts = fn.params.toList → ts.length = ds.length → s.fn H (ds ++ []) = { results := [.lit (.bool true)], args := ds })
    (conds : List PathCond)
    (os : Os) (started : os.Started) (H : Type) (enc : TypeId × Value → H)
    (args0 : Array Value)
    (hok : Input.okWideB Tryz.checked.prog ((World.laidAll Tryz.prog os laid).forCall (fun _ _ => 0) ⟨#[], args0, []⟩) f ⟨#[], args0, []⟩ = true)
    (hpre : s.preB enc Tryz.checked.prog fn conds false ((World.laidAll Tryz.prog os laid).forCall (fun _ _ => 0) ⟨#[], args0, []⟩).memory args0 8 = true)
    (hsz : s.sizedB enc Tryz.checked.prog fn false ((World.laidAll Tryz.prog os laid).forCall (fun _ _ => 0) ⟨#[], args0, []⟩).memory args0 8 = true)
    (hshaped : ((World.laidAll Tryz.prog os laid).forCall (fun _ _ => 0) ⟨#[], args0, []⟩).Shaped Tryz.prog)
    (hlaid : laidMet Tryz.prog laid ((World.laidAll Tryz.prog os laid).forCall (fun _ _ => 0) ⟨#[], args0, []⟩).memory)
    (walk : ∀ (W : World) (args : Array Value) (ds : List (DataW H)) (p : List MemPlace), Start enc laid fn W args ds p →
      Calls Tryz.prog f args W fun e W' => e = .returned (.bool true) ∧ Below W.heap.size W W') :
    ReturnsInHanded {} Tryz.checked os f .any (fun w args => (s.pre enc Tryz.prog fn conds false w args ∧ laidMetH Tryz.prog laid w) ∧ sizedMet enc Tryz.prog fn (OpenSpec.ofChange s) false w args)
      (s.post enc Tryz.prog fn false true false false) := by
  refine returnsInHanded_of_calls (C := Tryz.checked) own started hin
    (ChangeSpec.witness_shaped (enc := enc) (C := Tryz.checked) (os := os) (X := fun w _ => laidMetH Tryz.prog laid w) false (World.laidAll Tryz.prog os laid) args0 8 (World.laidAll_os _ _ _) hshaped hok hpre hsz
      (by rw [MakeChecks.laidMetH_plain _ _ _ hplain]; exact hlaid)) ?_
  intro w tape i _ hsh _ hok' hpre' _
  obtain ⟨_, _, _, fn', hfn', _, _, _, _, hval⟩ := hok'
  obtain rfl : fn' = fn := Option.some.inj (hfn'.symm.trans hfn)
  obtain ⟨⟨⟨ds, gs, before, hw, _⟩, hl⟩, hz⟩ := hpre'
  have hw' := DataW.Whole.of_heap (w' := w.forCall tape i) (by rfl) hw
  have hwt := hz.weights hw
  rw [MakeChecks.laidMetH_plain _ _ _ hplain] at hl
  have hl' : laidMet Tryz.prog laid (w.forCall tape i) := hl.of_heap (by rfl)
  have hlt := hw'.lt
  obtain ⟨p, q, hA, hV, rfl, hfz, hnd⟩ := hw'
  rw [hvars] at hV
  obtain ⟨rfl, rfl⟩ := trodVars_none hV
  have hplen : fn'.params.toList.length = ds.length := trodAll_len hA
  rw [List.append_nil] at hlt
  have hfit : (DataW.weightsEach Tryz.prog fn'.params.toList ds).all (· ≤ reachBytes) = true := by
    have e : (OpenSpec.ofChange s).bare.plain.varTypes Tryz.prog = [] := by
      show DataSpec.varTypes _ (s.plain) = _
      simp [DataSpec.varTypes, ChangeSpec.plain, hvars]
    rw [e, List.append_nil, List.append_nil] at hwt
    exact hwt
  refine (walk (w.forCall tape i) i.args ds p ⟨⟨_, hval⟩, hA, hfit, hl', hsh⟩).mono fun e W' ⟨he, hb⟩ => ?_
  subst he
  refine ChangeSpec.post_blind ?_
  refine ⟨ds, [], p ++ [], [], p, [], ⟨p, [], hA, by rw [hvars]; exact hV, rfl, hfz, hnd⟩, ?_, ?_, ?_, hb.frame _, fun h => by cases h⟩
  · rw [hs H _ ds rfl hplen, hres]; exact trodAll_mk1 (shut_bool Tryz.underlying4 true)
  · rw [hs H _ ds rfl hplen]; exact trodAll_stays hb hp hA hlt
  · rw [hs H _ ds rfl hplen, hvars]; rfl

/-- A listed table holds its numbers. -/
theorem tabIs_of_mem {P : Program} {W : World} {name : String} {k : IntKind} {zs : List Int} {g : Nat} {t e : TypeId} {n : Nat}
    (hg : P.globalNamed name = some g) (hty : (P.globals[g]?).map (·.type) = some t) (ht : P.underlying t = some (.array n e)) (he : P.underlying e = some (.int k)) (hce : P.cellsOf e = 1) (hct : P.cellsOf t = n) :
    ∀ {laid : List (String × DataW Unit)} {ps : List MemPlace}, DataW.LaidVars P W laid ps → (name, Lib.tabData k zs) ∈ laid → Lib.TabIs P W name k zs
  | [], _, _, h => by cases h
  | (m, d) :: r, ps, h, hm => by
    obtain ⟨g', t', cs, fuel, p, q, hg', ht', hvar, hd, hrest, _⟩ := h
    rcases List.mem_cons.1 hm with hm | hm
    · cases hm
      obtain rfl := Option.some.inj (hg.symm.trans hg')
      obtain rfl := Option.some.inj (hty.symm.trans ht')
      unfold Lib.TabIs
      rw [hvar, ← Lib.cells_of_tab ht he hce hct hd]
    · exact tabIs_of_mem hg hty ht he hce hct hrest hm

set_option maxRecDepth 100000 in
/-- A struct or an array by value: its cells, each of its own type. -/
theorem open_flat {W : World} {r : Reach} {b : Nat} {t : TypeId} {v : Value} {ts : List TypeId} (hv : Value.okWide Tryz.prog W r b t v)
    (ht : (match Tryz.prog.underlying t with | some (.struct _) | some (.array _ _) => true | _ => false) = true) (hc : Tryz.prog.cellTypes Tryz.prog.depth t = some ts) (hn : Tryz.prog.cellsOf t = ts.length) :
    ∃ cs, v = .agg cs ∧ cs.size = ts.length ∧ ∀ (i : Nat) u c, ts[i]? = some u → cs[i]? = some c → Cell.okWide Tryz.prog W r b u c := by
  have h : ∃ cs, v = .agg cs ∧ cs.size = Tryz.prog.cellsOf t ∧ Row.okWide Tryz.prog W r b t cs := by
    unfold Value.okWide at hv
    split at hv
    · exact hv
    · exact hv
    · rename_i h1 h2
      exfalso
      split at ht
      · rename_i x hx; exact h1 x hx
      · rename_i x y hx; exact h2 x y hx
      · cases ht
  obtain ⟨cs, rfl, hs, ts', hts, _, hall⟩ := h
  obtain rfl := Option.some.inj (hc.symm.trans hts)
  refine ⟨cs, rfl, hs.trans hn, fun i u c hu hcc => ?_⟩
  obtain ⟨u', hu', hok⟩ := hall i c hcc
  have hi : i < ts.length := (List.getElem?_eq_some_iff.1 hu).1
  rw [Nat.mod_eq_of_lt hi] at hu'
  obtain rfl := Option.some.inj (hu.symm.trans hu')
  exact hok
set_option maxRecDepth 100000 in
theorem cell_string {W : World} {r : Reach} {b : Nat} {u : TypeId} {c : Value} (h : Cell.okWide Tryz.prog W r b u c) (hu : Tryz.prog.underlying u = some .string) : ∃ s, c = .string s ∧ s.size ≤ maxLen := by
  unfold Cell.okWide at h
  simp only [hu] at h
  unfold Cell.ok at h
  simp only [hu] at h
  cases c <;> simp at h
  rename_i s
  refine ⟨s, rfl, ?_⟩
  have : IntKind.i64.max = 9223372036854775807 := rfl
  unfold maxLen
  omega
set_option maxRecDepth 100000 in
theorem cell_int {W : World} {r : Reach} {b : Nat} {u : TypeId} {c : Value} {k : IntKind} (h : Cell.okWide Tryz.prog W r b u c) (hu : Tryz.prog.underlying u = some (.int k)) : ∃ n, c = .int k n ∧ k.min ≤ n ∧ n ≤ k.max := by
  unfold Cell.okWide at h
  simp only [hu] at h
  unfold Cell.ok at h
  simp only [hu] at h
  cases c <;> simp at h
  rename_i k' n
  obtain ⟨rfl, h1, h2⟩ := h
  exact ⟨n, rfl, h1, h2⟩
set_option maxRecDepth 100000 in
theorem cell_bool {W : World} {r : Reach} {b : Nat} {u : TypeId} {c : Value} (h : Cell.okWide Tryz.prog W r b u c) (hu : Tryz.prog.underlying u = some .bool) : ∃ x, c = .bool x := by
  unfold Cell.okWide at h
  simp only [hu] at h
  unfold Cell.ok at h
  simp only [hu] at h
  cases c <;> simp at h
  exact ⟨_, rfl⟩
theorem add_zero' (a : Addr) : a.add 0 = a := by simp [Addr.add]
theorem add_off (b o n : Nat) : (⟨b, o, none⟩ : Addr).add n = ⟨b, o + n, none⟩ := by
  unfold Addr.add; split
  · rename_i h; subst h; rfl
  · rfl
theorem addr_of_cell {w : World} {a : Addr} {v : Value} (h : w.cell? a = some v) : ∃ b o, a = ⟨b, o, none⟩ := by
  obtain ⟨b, o, s⟩ := a
  cases s with
  | none => exact ⟨b, o, rfl⟩
  | some x =>
    exfalso
    unfold World.cell? at h
    split at h
    · simp at h
    · cases h
theorem array5 {cs : Array Value} (h : cs.size = 5) : ∃ a b c d e, cs = #[a, b, c, d, e] := by
  obtain ⟨l⟩ := cs
  match l, h with
  | [a, b, c, d, e], _ => exact ⟨a, b, c, d, e, rfl⟩
end Go.Proofs.YtldppmjjgljinaaGreatDoor
