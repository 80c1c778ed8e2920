/- The chapter's examples: the calls. -/
import Derived.Test.YtodickpibbbiiaaGreatDoorWkF3
namespace Go.Proofs.YtodickpibbbiiaaGreatDoor
open Go.RowKit

def knItems:Nodes:=[(⟨#[97]⟩,⟨1,tAbc,emp,5⟩),(⟨#[100]⟩,dirN),(⟨#[100,47,101]⟩,dirN),(⟨#[122]⟩,⟨3,emp,⟨#[97]⟩,6⟩)]
theorem kn_walk (Y:ByteArray) (hY:Y.size=5000):walkS (fun _=>false) (gE Y)=⟨knItems,[⟨#[100,47,126,116,126,120]⟩],[],[⟨#[100,47,101,47,121]⟩],⟨#[]⟩⟩:=by
  have h1:badN ⟨1,Y,emp,0⟩=true:=by simp [badN,hY]
  have h2:badN ⟨1,tAbc,emp,5⟩=false:=by kernel_rfl
  have h3:walkS (fun _=>false) [(⟨#[97]⟩,⟨1,tAbc,emp,5⟩),(⟨#[100]⟩,dirN),(⟨#[100,47,101]⟩,dirN)]=⟨[(⟨#[97]⟩,⟨1,tAbc,emp,5⟩),(⟨#[100]⟩,dirN),(⟨#[100,47,101]⟩,dirN)],[],[],[],⟨#[]⟩⟩:=by kernel_rfl
  have h4:gE Y=[(⟨#[97]⟩,⟨1,tAbc,emp,5⟩),(⟨#[100]⟩,dirN),(⟨#[100,47,101]⟩,dirN)]++[(⟨#[100,47,101,47,121]⟩,⟨1,Y,emp,0⟩)]++[(⟨#[100,47,126,116,126,120]⟩,⟨1,emp,emp,0⟩)]++[(⟨#[122]⟩,⟨3,emp,⟨#[97]⟩,6⟩)]:=rfl
  rw [h4,walkS_snoc,walkS_snoc,walkS_snoc,h3]
  have h5:stepW (fun _=>false) ⟨[(⟨#[97]⟩,⟨1,tAbc,emp,5⟩),(⟨#[100]⟩,dirN),(⟨#[100,47,101]⟩,dirN)],[],[],[],⟨#[]⟩⟩ (⟨#[100,47,101,47,121]⟩,⟨1,Y,emp,0⟩)=⟨[(⟨#[97]⟩,⟨1,tAbc,emp,5⟩),(⟨#[100]⟩,dirN),(⟨#[100,47,101]⟩,dirN)],[],[],[⟨#[100,47,101,47,121]⟩],⟨#[100,47,101,47,121]⟩⟩:=by
    have k2:isTempB ⟨#[100,47,101,47,121]⟩=false:=by kernel_rfl
    unfold stepW
    dsimp only
    rw [if_neg (by simp),k2,if_neg (by simp),if_neg (by simp),if_pos h1]
    rfl
  rw [h5]
  generalize hw:(⟨knItems,[⟨#[100,47,126,116,126,120]⟩],[],[⟨#[100,47,101,47,121]⟩],⟨#[]⟩⟩:WSt)=S
  have h6:stepW (fun _=>false) ⟨[(⟨#[97]⟩,⟨1,tAbc,emp,5⟩),(⟨#[100]⟩,dirN),(⟨#[100,47,101]⟩,dirN)],[],[],[⟨#[100,47,101,47,121]⟩],⟨#[100,47,101,47,121]⟩⟩ (⟨#[100,47,126,116,126,120]⟩,⟨1,emp,emp,0⟩)=⟨[(⟨#[97]⟩,⟨1,tAbc,emp,5⟩),(⟨#[100]⟩,dirN),(⟨#[100,47,101]⟩,dirN)],[⟨#[100,47,126,116,126,120]⟩],[],[⟨#[100,47,101,47,121]⟩],⟨#[100,47,126,116,126,120]⟩⟩:=by kernel_rfl
  have h7:stepW (fun _=>false) ⟨[(⟨#[97]⟩,⟨1,tAbc,emp,5⟩),(⟨#[100]⟩,dirN),(⟨#[100,47,101]⟩,dirN)],[⟨#[100,47,126,116,126,120]⟩],[],[⟨#[100,47,101,47,121]⟩],⟨#[100,47,126,116,126,120]⟩⟩ (⟨#[122]⟩,⟨3,emp,⟨#[97]⟩,6⟩)=⟨knItems,[⟨#[100,47,126,116,126,120]⟩],[],[⟨#[100,47,101,47,121]⟩],⟨#[]⟩⟩:=by kernel_rfl
  rw [h6,h7,hw]
/-- Walk, of a root that is none. -/
theorem kn_bad {w0 w:World} {A B:List Thing} {d:Nat} (h:Things w0 w (A++.disk d gD::B)) (E:Env w) (T:ShaTabs w) (r:ByteArray) (x:Int) (hr:r.size≤1000) (hx:rootE gD.live r=x) :
    Calls Tryz.prog 17 #[.pointer (some ⟨d,0,none⟩),.string r,.pointer none] w fun e w'=>∃ a0 n0 c0 a1 n1 c1 a2 n2 c2 a3 n3 c3,e=.returned (.tuple #[.agg #[.slice a0 n0 c0,.slice a1 n1 c1,.slice a2 n2 c2,.slice a3 n3 c3],.int .i64 x])∧Hid (Ext w w') :=
  (wcall_any h gD_run (by decide) E T r (by omega) (PatAs.nil w)).mono fun e w' ⟨v0,v1,v2,v3,he,h1⟩=>by
    obtain ⟨a0,c0,rfl,_⟩:=h1.out.1
    obtain ⟨⟨a1,c1,rfl,_⟩,_⟩:=h1.out.2.1
    obtain ⟨⟨a2,c2,rfl,_⟩,_⟩:=h1.out.2.2.1
    obtain ⟨⟨a3,c3,rfl,_⟩,_⟩:=h1.out.2.2.2.1
    exact ⟨a0,_,c0,a1,_,c1,a2,_,c2,a3,_,c3,hx▸he,Lib.hid h1.out.2.2.2.2⟩
theorem kn_item {w0 w:World} {A B:List Thing} {d:Nat} (h:Things w0 w (A++.disk d gD::B)) (E:Env w) (T:ShaTabs w) (p:ByteArray) (hp:p.size≤1000) (x:Int)
    (hx:∀ base w' C e,OneIs base w' gD.live nF1 p C e→e=x) :
    Calls Tryz.prog 24 #[.pointer (some ⟨d,0,none⟩),.string nF1,.string p] w fun e w'=>∃ C,e=.returned (.tuple #[.agg C,.int .i64 x])∧Hid (C.size=27∧C.all (·.oneCell')=true∧Ext w w'):=by
  refine (disk_ext h fun M I hd=>Item_any hd gD_run.run E T nF1 p (by decide) (by omega)).mono ?_
  rintro e w' ⟨C,y,rfl,h1⟩
  have hs:C.size=27∧C.all (·.oneCell')=true:=by
    rcases h1.out.1 with ⟨_,rfl,_⟩ | ⟨_,_,rfl,_⟩ | ⟨_,_,h⟩
    · exact ⟨rfl,by rw [rec0_is];simp [Value.oneCell']⟩
    · exact ⟨rfl,by rw [rec0_is];simp [Value.oneCell']⟩
    · exact item_shape h
  exact ⟨C,by rw [hx _ _ _ _ h1.out.1],⟨hs.1,hs.2,h1.out.2⟩⟩
/-- A row of one digest. -/
theorem hash_row {w:World} {base:Nat} {v:Value} {h:List UInt8} (hr:w.ownsRow base 54 32 v 1 (hrow [h])) (hl:h.length=32):∃ g cap,v=.slice (some ⟨g,0,none⟩) 1 cap∧Hid (∀ w',Ext w w'→w'.rangeAt g 0 (hArr h 32).toList):=by
  obtain ⟨a,cap,rfl,h1,h2,h3,h4⟩:=row_cells hr
  have hrw:hrow [h]=h.map bv:=by simp [hrow]
  obtain ⟨x,hx⟩:∃ x,h[0]?=some x:=⟨_,List.getElem?_eq_getElem (by omega)⟩
  obtain ⟨g,rfl,_,hg,_⟩:=h4 0 (bv x) (by rw [hrw];simp [hx])
  refine ⟨g,cap,rfl,Lib.hid (fun w' X j u hj=>?_)⟩
  rw [hArr_list hl] at hj
  obtain ⟨g',e,_,_,hc⟩:=h4 j u (by rw [hrw];simpa using hj)
  cases e
  rw [Nat.zero_add]
  exact (X.cell (lt_of_cell hc)).trans hc
theorem kn_y:∀ base w' C e,OneIs base w' gD.live nF1 ⟨#[100,47,101,47,121]⟩ C e→e=3:=by
  intro base w' C e h
  rw [gD_live] at h
  have hY:=gY_size
  generalize gY=Y at *
  have hm:(mayB nF1&&mayB ⟨#[100,47,101,47,121]⟩)=true:=by kernel_rfl
  have hr:readE (gLv Y) (nF1++⟨#[47]⟩++⟨#[100,47,101,47,121]⟩)=(⟨1,Y,emp,0⟩,0):=by kernel_rfl
  rcases h with ⟨h1,_⟩ | ⟨_,h2,_⟩ | ⟨_,_,h3⟩
  · rw [hm] at h1;cases h1
  · rw [hr] at h2;exact absurd rfl h2
  · rw [hr] at h3
    rcases h3 with ⟨k,_⟩ | ⟨_,k,_⟩ | ⟨_,_,k,_⟩
    · exact absurd rfl k
    · rw [hY] at k;omega
    · exact k
theorem kn_b:∀ base w' C e,OneIs base w' gD.live nF1 ⟨#[98]⟩ C e→e=5:=by
  intro base w' C e h
  rw [gD_live] at h
  generalize gY=Y at *
  have hm:(mayB nF1&&mayB ⟨#[98]⟩)=true:=by kernel_rfl
  have hr:readE (gLv Y) (nF1++⟨#[47]⟩++⟨#[98]⟩)=(nd0,5):=by kernel_rfl
  rcases h with ⟨h1,_⟩ | ⟨_,_,_,h2⟩ | ⟨_,h2,_⟩
  · rw [hm] at h1;cases h1
  · rw [hr] at h2;exact h2
  · rw [hr] at h2;cases h2
theorem kn_s:∀ base w' C e,OneIs base w' gD.live nF1 ⟨#[47]⟩ C e→e=10:=by
  intro base w' C e h
  have hm:(mayB nF1&&mayB ⟨#[47]⟩)=false:=by kernel_rfl
  rcases h with ⟨_,_,h1⟩ | ⟨h1,_⟩ | ⟨h1,_⟩
  · exact h1
  · rw [hm] at h1;cases h1
  · rw [hm] at h1;cases h1
theorem kn_r2:rootE gD.live ⟨#[102,50]⟩=5:=by
  rw [gD_live]
  generalize gY=Y
  kernel_rfl
theorem kn_ra:rootE gD.live ⟨#[102,49,47,97]⟩=12:=by
  rw [gD_live]
  generalize gY=Y
  kernel_rfl
theorem kn_r0:rootE gD.live ⟨#[]⟩=10:=by
  rw [gD_live]
  generalize gY=Y
  kernel_rfl
/-- Walk of the chapter's disk, without patterns. -/
theorem kn_call {w0 w:World} {A B:List Thing} {d:Nat} (h:Things w0 w (A++.disk d gD::B)) (E:Env w) (T:ShaTabs w) :
    Calls Tryz.prog 17 #[.pointer (some ⟨d,0,none⟩),.string nF1,.pointer none] w fun e w'=>∃ v0 v1 v2 v3,e=.returned (.tuple #[.agg #[v0,v1,v2,v3],.int .i64 0])∧Hid (ItemsAt w' v0 knItems∧TextsOwn w' v1 [⟨#[100,47,126,116,126,120]⟩]∧TextsOwn w' v2 []∧TextsOwn w' v3 [⟨#[100,47,101,47,121]⟩]∧Ext w w'):=by
  refine (wcall_any h gD_run (by decide) E T nF1 (by decide) (PatAs.nil w)).mono ?_
  rintro e w' ⟨v0,v1,v2,v3,he,h1⟩
  rw [gD_root] at he
  rw [gD_each,kn_walk _ gY_size] at h1
  exact ⟨v0,v1,v2,v3,he,h1⟩
theorem kn_paths:pathsT knItems=⟨#[97,32,100,32,100,47,101,32,122,32]⟩:=by kernel_rfl
theorem kn_none (w:World):Calls Tryz.prog 24 #[.pointer none,.string ⟨#[102,49]⟩,.string ⟨#[97]⟩] w fun e w'=>∃ C,e=.returned (.tuple #[.agg C,.int .i64 1])∧Hid (C.size=27∧C.all (·.oneCell')=true∧Ext w w') :=
  (Item_none _ _ _).mono fun e w' ⟨h1,h2⟩=>⟨rec0,h1,⟨rfl,by rw [rec0_is];simp [Value.oneCell'],h2⟩⟩
end Go.Proofs.YtodickpibbbiiaaGreatDoor
