/- Part of the proof. -/
import Derived.Test.YtohfkhjlnlahdaaGreatW01
import Derived.Deep.MidRow
import Derived.Deep.WholeRow
import Derived.Lib.SlicesS
import Derived.BigQuiet
import Derived.StillTail
import Derived.Test.YtohfkhjlnlahdaaGreatProg
import Derived.Laws.IdiomStrings
import Derived.Shelf.Bytes.SlSmallAll
import Derived.Deep.Upon
import Derived.ArgAppend
import Derived.Deep.AppendLies
import Derived.Maps.AppendAt
import Derived.Lib.Hide
import Derived.Deep.DeepMust
import Derived.WalkLawsBesides
import Derived.BigRegion
import Derived.Deep.RegionHeld3
import Derived.Deep.RegionLaw
import Derived.Deep.DeepCutAuto
set_option linter.all false
namespace Go.Proofs.YtohfkhjlnlahdaaGreat
open Go.RowKit Go.BigFrame
theorem alloc_top {w:World} {o:Obj} {n:Nat} (h:n=w.heap.size):(w.alloc o).heap[n]?=some o:=by subst h;exact heap_alloc_new _ _
theorem own_shape {w:World} {base e size n:Nat} {v:Value} {xs:List Value} (h:w.ownsRow base e size v n xs):∃ ao cp,v=.slice ao n cp:=by
 rcases h.2 with ⟨rfl,rfl⟩ | ⟨g,c,cur,h2,-⟩
 ·exact⟨_,_,rfl⟩
 ·exact⟨_,_,h2⟩
theorem own_low {w:World} {base base' e size n:Nat} {v:Value} {xs:List Value} (h:w.ownsRow base e size v n xs) (hb:base'≤base):w.ownsRow base' e size v n xs:=by
 rcases h with ⟨h1,h2 | ⟨g,c,cur,h2,h3,h4⟩⟩
 ·exact⟨h1,.inl h2⟩
 ·exact⟨h1,.inr ⟨g,c,cur,h2,Nat.le_trans hb h3,h4⟩⟩
theorem ownBlock_ge {w:World} {base e size n:Nat} {v:Value} {xs:List Value} (ho:w.ownsRow base e size v n xs) {k:Nat} (hk:v.ownBlock=some k):base≤k:=by
 obtain⟨_,h2⟩:=ho
 rcases h2 with ⟨rfl,_⟩ | ⟨g,cap,cur,rfl,hg,hh,r⟩
 ·simp[Value.ownBlock] at hk
 ·simp[Value.ownBlock] at hk;subst hk;exact hg
theorem cell_lt {w:World} {k o:Nat} {v:Value} (h:w.cell? ⟨k,o,none⟩=some v):k < w.heap.size:=World.block_lt_of_cell? _ _ h
def u8 (x:UInt8):Value:=.int .u8 (x.toNat:Int)
def Byts (w:World) (v:Value) (l:List UInt8):Prop:=
 ∃ ao cap,v=.slice ao l.length cap∧l.length≤cap∧∀ k x,l[k]?=some x→∃ b o,ao=some ⟨b,o,none⟩∧w.cell? ⟨b,o + k,none⟩=some (u8 x)
theorem Byts.nil (w:World):Byts w (.slice none 0 0) []:=⟨none,0,rfl,Nat.le_refl _,fun k x h=>by simp at h⟩
theorem Byts.frm {F:List Nat} {w w':World} {v:Value} {l:List UInt8} (h:Byts w v l) (hf:Frm F w w') (hn:∀ k,v.ownBlock=some k→k∉F):Byts w' v l:=by
 obtain⟨ao,cap,rfl,h1,h2⟩:=h
 refine⟨ao,cap,rfl,h1,fun k x hk=>?_⟩
 obtain⟨b,o,rfl,e⟩:=h2 k x hk
 exact⟨b,o,rfl,hf.cellAt e (hn b rfl)⟩
theorem Byts.frm0 {w w':World} {v:Value} {l:List UInt8} (h:Byts w v l) (hf:Frm [] w w'):Byts w' v l:=h.frm hf (by simp)
theorem Byts.len {w:World} {v:Value} {l:List UInt8} (h:Byts w v l):∃ ao cap,v=.slice ao l.length cap∧l.length≤cap:=by
 obtain⟨ao,cap,h1,h2,-⟩:=h;exact⟨ao,cap,h1,h2⟩
theorem Tryz.info5:(Tryz.prog.info? 5).map (fun i=>(i.zero,i.size,i.bytes))=some (some (.int .u8 0),1,1):=by kernel_rfl
end Go.Proofs.YtohfkhjlnlahdaaGreat
