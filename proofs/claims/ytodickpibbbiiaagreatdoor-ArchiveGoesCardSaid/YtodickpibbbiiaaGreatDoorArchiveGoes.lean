/- ArchiveGoes: which of any entries go, by any policy and at any time, is the answer of the document, and the entries stay: the statement ArchiveGoesCardSaid, with no condition of its own. -/
import Derived.Test.YtodickpibbbiiaaGreatDoorAgG1
import Derived.Test.YtodickpibbbiiaaGreatDoorAgG2
import Derived.Test.YtodickpibbbiiaaGreatDoorAgG4
import Derived.Test.YtodickpibbbiiaaGreatDoorArchiveGoesF
import Derived.Test.YtodickpibbbiiaaGreatDoorArchiveGoesG
namespace Go.Proofs.YtodickpibbbiiaaGreatDoor.lawArchiveGoes
open Go.ChangeShapes Go.WideShapes Go.ChangeAt Go.RowKit
open Go.ChangeMaps (open_string)

theorem array3 {cs:Array Value} (h:cs.size=3):∃ a b c,cs=#[a,b,c]:=by
  obtain ⟨l⟩:=cs
  match l,h with
  | [a,b,c],_=>exact ⟨a,b,c,rfl⟩
theorem walk (p:Pol) (v:Value) (l:List Ent) (now:Int) (w:World) (hv:EntsIn w v l) (E:EnvA w):Calls Tryz.prog 8 #[polV p,v,.int .i64 now] w fun e w'=>e=.returned (.bool true)∧Below w.heap.size w w':=goes_walk p v l now w hv E

-- BEGUN
set_option maxRecDepth 100000 in
theorem begun {H:Type} {enc:TypeId×Value→H} (W:World) (args:Array Value) (ds:List (DataW H)) (p:List MemPlace) (st:Start enc Rows.archiveGoesRow.laid Tryz.f8 W args ds p) :
    Calls Tryz.prog 8 args W fun e W'=>e=.returned (.bool true)∧Below W.heap.size W W':=by
  obtain ⟨⟨base,hval⟩,hA,hfit,hl,hsh⟩:=st
  rw [Tryz.params8] at hA hval hfit
  obtain ⟨v0,v1,v2,d0,d1,d2,p0,p1,p2,rfl,rfl,rfl,h0,h1,h2⟩:=trodAll_three hA
  have hfit:((DataW.weightsEach Tryz.prog [89,90,2] [d0,d1,d2]).all (·≤reachBytes))=true:=hfit
  simp only [DataW.weightsEach,List.append_nil,List.all_append,Bool.and_eq_true] at hfit
  obtain ⟨cs,rfl,hn,hc⟩:=open_flat (ts:=[3,3,2]) (hval 0 89 v0 rfl rfl) (by kernel_rfl) (by kernel_rfl) (by kernel_rfl)
  obtain ⟨c0,c1,c2,rfl⟩:=array3 hn
  obtain ⟨s,rfl,hs⟩:=cell_int (k:=.i64) (hc 0 3 c0 rfl rfl) (by kernel_rfl)
  obtain ⟨t,rfl,ht⟩:=cell_int (k:=.i64) (hc 1 3 c1 rfl rfl) (by kernel_rfl)
  obtain ⟨u,rfl,hu⟩:=cell_int (k:=.i64) (hc 2 2 c2 rfl rfl) (by kernel_rfl)
  obtain ⟨c,rfl,rfl,rfl,hcc⟩:=open_int (show Tryz.prog.underlying 2=some (.int .i64) by kernel_rfl) (hval 2 2 v2 rfl rfl) h2
  obtain ⟨l,hl2⟩:=open_ents (hval 1 90 v1 rfl rfl) h1 hfit.2.1
  exact walk ⟨s,t,u⟩ _ l c W hl2 (enva_of hl hsh 2 rfl)

set_option maxRecDepth 100000 in
theorem said:Rows.ArchiveGoesSaid :=
  OpenClaim.holds_of_wide 8 Tryz.f8 rfl rfl rfl rfl rfl rfl rfl ⟨rfl,rfl,rfl,rfl,rfl⟩ rfl rfl rfl rfl rfl named Tryz.func8 facts
    (of_decide_eq_true (by kernel_rfl)) (by unfold Func.isWrapper;first | (rw [if_pos (by decide +kernel)];kernel_rfl) | (rw [if_neg (by decide +kernel)];exact ⟨rfl,rfl⟩))
    (fun os started H enc _=>lifted Rows.archiveGoesRow.laid (by kernel_rfl) 8 Tryz.f8 Tryz.func8 Rows.archiveGoesSpec rfl (by kernel_rfl) (by kernel_rfl)
      (by rw [Tryz.params8]
          have hall:([89,90,2].all fun t=>Tryz.prog.readableRec t&&decide (t<Tryz.prog.types.size))=true:=by kernel_rfl
          intro t ht
          have:=List.all_eq_true.1 hall t ht
          simpa using this)
      (by intro H ts ds h hl;rw [Tryz.params8] at h;subst h
          match ds,hl with
          | [d1,d2,d3],_=>rfl)
      Rows.archiveGoesRow.domain os started H enc #[.agg #[.int .i64 0,.int .i64 0,.int .i64 0],.slice none 0 0,.int .i64 0] (by kernel_rfl) (by kernel_rfl) (by kernel_rfl)
      (World.shaped_of_ZipB (by kernel_rfl) (by kernel_rfl)) (laidMet_laidAll _ (by kernel_rfl) (by kernel_rfl))
      begun)

theorem card:Rows.ArchiveGoesCardSaid :=
  Claim7.holds_tied_plain_at .later [] Rows.archiveGoesCard.laidKinds true Rows.archiveGoesCard.stood.harness Rows.archiveGoesCard.stood.looks said (fun _ h=>by cases h) card1 (fun _ h=>by cases h) archiveGoes_row_tie rfl ⟨rfl,rfl⟩ card2 rfl
    (fun f fn hf hfn=>by
      obtain rfl:f=8:=Option.some.inj (named.symm.trans hf) |>.symm
      obtain rfl:fn=Tryz.f8:=(Option.some.inj (Tryz.func8.symm.trans hfn)).symm
      exact ⟨card3,fun j t ht=>by
        rw [Tryz.params8] at ht
        have hm:t∈[89,90,2]:=by simpa using Array.mem_of_getElem? ht
        have hall:=card4
        exact (show Tryz.pinned.checked.prog.wantsStandIn t=false by simpa using List.all_eq_true.1 hall t hm)⟩)
    card5
#print axioms card
end Go.Proofs.YtodickpibbbiiaaGreatDoor.lawArchiveGoes
