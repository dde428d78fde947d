/- Part of the proof. -/
import Derived.Test.YtohfkhjlnlahdaaGreatQ01
import Derived.Deep.MidRow
import Derived.Deep.WholeRow
import Derived.Lib.SlicesS
import Derived.BigQuiet
import Derived.StillTail
import Derived.Test.YtohfkhjlnlahdaaGreatProg
import Derived.Laws.IdiomStrings
import Derived.Shelf.Bytes.SlSmallAll
import Derived.Deep.Upon
import Derived.ArgAppend
import Derived.Deep.AppendLies
import Derived.Maps.AppendAt
import Derived.Lib.Hide
import Derived.Deep.DeepMust
import Derived.WalkLawsBesides
import Derived.BigRegion
import Derived.Deep.RegionHeld3
import Derived.Deep.RegionLaw
import Derived.Deep.DeepCutAuto
set_option linter.all false
namespace Go.Proofs.YtohfkhjlnlahdaaGreat
open Go.RowKit Go.BigFrame
theorem aq {w:World} {o:Obj} {n:Nat} (a:n=w.heap.size):(w.alloc o).heap[n]?=some o:=by subst a;exact heap_alloc_new _ _
theorem an {w:World} {base e E n:Nat} {v:Value} {G:List Value} (h:w.ownsRow base e E v n G):∃ ao a,v=.slice ao n a:=by
 rcases h.2 with ⟨rfl,rfl⟩ | ⟨g,c,cur,A,-⟩
 ·exact⟨_,_,rfl⟩
 ·exact⟨_,_,A⟩
theorem df {w:World} {base h e E n:Nat} {v:Value} {G:List Value} (H:w.ownsRow base e E v n G) (hb:h≤base):w.ownsRow h e E v n G:=by
 rcases H with ⟨A,a | ⟨g,c,cur,a,I,J⟩⟩
 ·exact⟨A,.inl a⟩
 ·exact⟨A,.inr ⟨g,c,cur,a,Nat.le_trans hb I,J⟩⟩
theorem aF {w:World} {base e G n:Nat} {v:Value} {H:List Value} (E:w.ownsRow base e G v n H) {k:Nat} (a:v.ownBlock=some k):base≤k:=by
 obtain⟨_,h⟩:=E
 rcases h with ⟨rfl,_⟩ | ⟨g,cap,cur,rfl,A,I,r⟩
 ·simp[Value.ownBlock] at a
 ·simp[Value.ownBlock] at a;subst a;exact A
theorem aI {w:World} {k o:Nat} {v:Value} (a:w.cell? ⟨k,o,none⟩=some v):k<w.heap.size:=World.block_lt_of_cell? _ _ a
def u8 (x:UInt8):Value:=.int .u8 (x.toNat:Int)
def Byts (w:World) (v:Value) (l:List UInt8):Prop:=
 ∃ ao cap,v=.slice ao l.length cap∧l.length≤cap∧∀ k x,l[k]?=some x→∃ b o,ao=some ⟨b,o,none⟩∧w.cell? ⟨b,o+k,none⟩=some (u8 x)
theorem Byts.nil (w:World):Byts w (.slice none 0 0) []:=⟨none,0,rfl,Nat.le_refl _,fun k x a=>by simp at a⟩
theorem Byts.frm {F:List Nat} {w w':World} {v:Value} {l:List UInt8} (a:Byts w v l) (E:Frm F w w') (H:∀ k,v.ownBlock=some k→k∉F):Byts w' v l:=by
 obtain⟨ao,cap,rfl,h,A⟩:=a
 refine⟨ao,cap,rfl,h,fun k x G=>?_⟩
 obtain⟨b,o,rfl,e⟩:=A k x G
 exact⟨b,o,rfl,E.cellAt e (H b rfl)⟩
theorem Byts.frm0 {w w':World} {v:Value} {l:List UInt8} (a:Byts w v l) (h:Frm [] w w'):Byts w' v l:=a.frm h (by simp)
theorem Byts.len {w:World} {v:Value} {l:List UInt8} (a:Byts w v l):∃ ao cap,v=.slice ao l.length cap∧l.length≤cap:=by
 obtain⟨ao,cap,h,A,-⟩:=a;exact⟨ao,cap,h,A⟩
theorem Tryz.info5:(Tryz.prog.info? 5).map (fun i=>(i.zero,i.size,i.bytes))=some (some (.int .u8 0),1,1):=by kernel_rfl
end Go.Proofs.YtohfkhjlnlahdaaGreat
