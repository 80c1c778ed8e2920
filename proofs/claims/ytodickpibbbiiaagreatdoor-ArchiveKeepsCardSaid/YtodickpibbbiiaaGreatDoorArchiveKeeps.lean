/- ArchiveKeeps: the newest entry of a path never goes; staggered, of each bucket whose age is not above MaxAge the oldest entry is left; what is left stays, asked again: the statement ArchiveKeepsCardSaid, with no condition of its own. -/
import Derived.Test.YtodickpibbbiiaaGreatDoorAkG1
import Derived.Test.YtodickpibbbiiaaGreatDoorAkG2
import Derived.Test.YtodickpibbbiiaaGreatDoorAkG3
import Derived.Test.YtodickpibbbiiaaGreatDoorArchiveKeepsF
import Derived.Test.YtodickpibbbiiaaGreatDoorArchiveKeepsG
namespace Go.Proofs.YtodickpibbbiiaaGreatDoor.lawArchiveKeeps
open Go.ChangeShapes Go.WideShapes Go.ChangeAt Go.RowKit
open Go.ChangeMaps (open_string)

theorem array3 {cs:Array Value} (h:cs.size=3):∃ a b c,cs=#[a,b,c]:=by
  obtain ⟨l⟩:=cs
  match l,h with
  | [a,b,c],_=>exact ⟨a,b,c,rfl⟩
theorem walk (p:Pol) (v:Value) (zs:List Nat) (now:Int) (w:World) (hv:StepsIn w v zs) (E:EnvA w):Calls Tryz.prog 9 #[polV p,v,.int .i64 now] w fun e w'=>e=.returned (.bool true)∧Below w.heap.size w w':=keeps_walk p v zs now w hv E

-- BEGUN
set_option maxRecDepth 100000 in
theorem begun {H:Type} {enc:TypeId×Value→H} (W:World) (args:Array Value) (ds:List (DataW H)) (p:List MemPlace) (st:Start enc Rows.archiveKeepsRow.laid Tryz.f9 W args ds p) :
    Calls Tryz.prog 9 args W fun e W'=>e=.returned (.bool true)∧Below W.heap.size W W':=by
  obtain ⟨⟨base,hval⟩,hA,hfit,hl,hsh⟩:=st
  rw [Tryz.params9] at hA hval hfit
  obtain ⟨v0,v1,v2,d0,d1,d2,p0,p1,p2,rfl,rfl,rfl,h0,h1,h2⟩:=trodAll_three hA
  obtain ⟨cs,rfl,hn,hc⟩:=open_flat (ts:=[3,3,2]) (hval 0 89 v0 rfl rfl) (by kernel_rfl) (by kernel_rfl) (by kernel_rfl)
  obtain ⟨c0,c1,c2,rfl⟩:=array3 hn
  obtain ⟨s,rfl,hs⟩:=cell_int (k:=.i64) (hc 0 3 c0 rfl rfl) (by kernel_rfl)
  obtain ⟨t,rfl,ht⟩:=cell_int (k:=.i64) (hc 1 3 c1 rfl rfl) (by kernel_rfl)
  obtain ⟨u,rfl,hu⟩:=cell_int (k:=.i64) (hc 2 2 c2 rfl rfl) (by kernel_rfl)
  obtain ⟨c,rfl,rfl,rfl,hcc⟩:=open_int (show Tryz.prog.underlying 2=some (.int .i64) by kernel_rfl) (hval 2 2 v2 rfl rfl) h2
  obtain ⟨o,len,cap,rfl⟩:=okWide_slice (show Tryz.prog.underlying 100=some (.slice 101) by kernel_rfl) (hval 1 100 v1 rfl rfl)
  obtain ⟨fuel,hf⟩:=h1
  obtain ⟨zs,hz⟩:=open_steps hf
  exact walk ⟨s,t,u⟩ _ zs c W hz (enva_of hl hsh 2 rfl)

set_option maxRecDepth 100000 in
theorem said:Rows.ArchiveKeepsSaid :=
  OpenClaim.holds_of_wide 9 Tryz.f9 rfl rfl rfl rfl rfl rfl rfl ⟨rfl,rfl,rfl,rfl,rfl⟩ rfl rfl rfl rfl rfl named Tryz.func9 facts
    (of_decide_eq_true (by kernel_rfl)) (by unfold Func.isWrapper;first | (rw [if_pos (by decide +kernel)];kernel_rfl) | (rw [if_neg (by decide +kernel)];exact ⟨rfl,rfl⟩))
    (fun os started H enc _=>lifted Rows.archiveKeepsRow.laid (by kernel_rfl) 9 Tryz.f9 Tryz.func9 Rows.archiveKeepsSpec rfl (by kernel_rfl) (by kernel_rfl)
      (by rw [Tryz.params9]
          have hall:([89,100,2].all fun t=>Tryz.prog.readableRec t&&decide (t<Tryz.prog.types.size))=true:=by kernel_rfl
          intro t ht
          have:=List.all_eq_true.1 hall t ht
          simpa using this)
      (by intro H ts ds h hl;rw [Tryz.params9] at h;subst h
          match ds,hl with
          | [d1,d2,d3],_=>rfl)
      Rows.archiveKeepsRow.domain os started H enc #[.agg #[.int .i64 0,.int .i64 0,.int .i64 0],.slice none 0 0,.int .i64 0] (by kernel_rfl) (by kernel_rfl) (by kernel_rfl)
      (World.shaped_of_ZipB (by kernel_rfl) (by kernel_rfl)) (laidMet_laidAll _ (by kernel_rfl) (by kernel_rfl))
      begun)

theorem card:Rows.ArchiveKeepsCardSaid :=
  Claim7.holds_tied_plain_at .later [] Rows.archiveKeepsCard.laidKinds true Rows.archiveKeepsCard.stood.harness Rows.archiveKeepsCard.stood.looks said (fun _ h=>by cases h) card1 (fun _ h=>by cases h) archiveKeeps_row_tie rfl ⟨rfl,rfl⟩ card2 rfl
    (fun f fn hf hfn=>by
      obtain rfl:f=9:=Option.some.inj (named.symm.trans hf) |>.symm
      obtain rfl:fn=Tryz.f9:=(Option.some.inj (Tryz.func9.symm.trans hfn)).symm
      exact ⟨card3,fun j t ht=>by
        rw [Tryz.params9] at ht
        have hm:t∈[89,100,2]:=by simpa using Array.mem_of_getElem? ht
        have hall:=card4
        exact (show Tryz.pinned.checked.prog.wantsStandIn t=false by simpa using List.all_eq_true.1 hall t hm)⟩)
    card5
#print axioms card
end Go.Proofs.YtodickpibbbiiaaGreatDoor.lawArchiveKeeps
