/- Part of the proof. -/
import Derived.Test.YtohfkhjlnlahdaaGreatQ28
import Derived.Test.YtohfkhjlnlahdaaGreatQ29
set_option linter.all false
namespace Go.Proofs.YtohfkhjlnlahdaaGreat
open Go.RowKit Go.BigFrame
def Kp (I:Nat→Prop) (T:List TypeId) (W V:World):Prop:=∀ k c t,I k→W.heap[k]?=some (.cells c t (0,0))→t∉T→V.heap[k]?=some (.cells c t (0,0))
section
variable {I J:Nat→Prop} {T:List TypeId} {W V:World}
theorem Kp.of_kt (a:Kt T W V):Kp I T W V:=fun _ _ _ _ h A=>a.cells h A
theorem Kp.of_agree {B:Nat} (h:Agree B W V) (A:∀ k,I k→B≤k):Kp I [] W V:=fun k _ _ E a _=>(h k (A k E) (lt_of_block a)).trans a
theorem Kp.of_frm {F:List Nat} (a:Frm F W V) (h:∀ k,I k→k∉F):Kp I [] W V:=fun k _ _ A E _=>a.at E (h k A)
theorem Kp.of_frm0 (a:Frm [] W V):Kp I [] W V:=Kp.of_frm a (by simp)
theorem Kp.row {base e A n:Nat} {v:Value} {E:List Value} (G:Kp I T W V) (S:W.ownsRow base e A v n E) (R:∀ k,v.ownBlock=some k→I k) (K:e∉T):V.ownsRow base e A v n E:=by
 obtain⟨H,a⟩:=S
 refine⟨H,?_⟩
 rcases a with a | ⟨g,cap,cur,h,N,O,r⟩
 ·exact .inl a
 ·exact .inr ⟨g,cap,cur,h,N,G g _ _ (R g (by rw[h];rfl)) O K,r⟩
def ChO (I:Nat→Prop) (W:World) (cb:Nat) (cls cap:Int) (L:List ByteArray):Prop:=∃ F,Chn W cb cls cap L F∧∀ x∈F,I x
theorem ChO.kp {cb:Nat} {cls cap:Int} {L:List ByteArray} (H:ChO I W cb cls cap L) (a:Kp I T W V) (K:233∉T) (N:9∉T):ChO I V cb cls cap L:=by
 obtain⟨F,⟨O,A,E,G,rfl⟩,h⟩:=H
 exact⟨_,⟨O,a cb _ _ (h cb (by simp)) A K,a.row E (fun k a=>h k (by simp[a])) N,G,rfl⟩,h⟩
abbrev pv (cb:Nat):Value:=.pointer (some ⟨cb,0,none⟩)
def RowC (I:Nat→Prop) (W:World) (cls cap:Int) (h:List Value) (a:List (List ByteArray)):Prop:=h.length=a.length∧∀ (k:Nat) L,a[k]?=some L→∃ cb,h[k]?=some (pv cb)∧ChO I W cb cls cap L
def RowO (I:Nat→Prop) (W:World) (cls cap:Int) (r:Value) (a:List (List ByteArray)):Prop:=∃ base h,W.ownsRow base 130 1 r a.length h∧(∀ k,r.ownBlock=some k→I k)∧RowC I W cls cap h a
theorem RowC.kp {cls cap:Int} {h:List Value} {a:List (List ByteArray)} (A:RowC I W cls cap h a) (O:Kp I T W V) (H:233∉T) (K:9∉T):RowC I V cls cap h a:=by
 refine⟨A.1,fun k L N=>?_⟩
 obtain⟨cb,E,G⟩:=A.2 k L N
 exact⟨cb,E,G.kp O H K⟩
theorem ld {α:Type} {l:List α} {x y:α} {k:Nat} (a:(l++[x])[k]?=some y):l[k]?=some y∨(k=l.length∧y=x):=by
 by_cases hk:k<l.length
 ·rw[List.getElem?_append_left hk] at a;exact .inl a
 ·rw[List.getElem?_append_right (by omega)] at a
  have h:=ag a
  simp at h
  have e:k - l.length=0:=by omega
  rw[e] at a
  simp at a
  exact .inr ⟨by omega,a.symm⟩
theorem RowC.snoc {cls cap:Int} {E:List Value} {A:List (List ByteArray)} {cb:Nat} {L:List ByteArray} (a:RowC I W cls cap E A) (N:ChO I W cb cls cap L):RowC I W cls cap (E++[pv cb]) (A++[L]):=by
 refine⟨by simp[a.1],fun k L' h=>?_⟩
 rcases ld h with h | ⟨rfl,rfl⟩
 ·obtain⟨H,G,K⟩:=a.2 k L' h
  exact⟨H,by rw[List.getElem?_append_left (ag G)];exact G,K⟩
 ·exact⟨cb,by rw[← a.1];simp,N⟩
theorem RowC.nil {cls cap:Int}:RowC I W cls cap [] []:=⟨rfl,fun k L a=>by simp at a⟩
theorem RowO.kp {cls cap:Int} {r:Value} {a:List (List ByteArray)} (K:RowO I W cls cap r a) (A:Kp I T W V) (N:233∉T) (O:9∉T) (R:130∉T):RowO I V cls cap r a:=by
 obtain⟨base,E,G,h,H⟩:=K
 exact⟨base,E,A.row G h R,h,H.kp A N O⟩
theorem fP {base e n:Nat} {v:Value} {H:List Value} {G:Nat} (K:W.ownsRow base e G v n H) {j:Nat} {u:Value} (E:H[j]?=some u):∃ g cap,v=.slice (some ⟨g,0,none⟩) n cap∧W.cell? ⟨g,j,none⟩=some u:=by
 obtain⟨h,a⟩:=K
 have A:=ag E
 rcases a with ⟨-,a⟩ | ⟨g,cap,cur,rfl,R,N,-,-,-,O⟩
 ·rw[h,a] at A;omega
 ·refine⟨g,cap,rfl,?_⟩
  rw[ae N,← Array.getElem?_toList]
  rw[← List.getElem?_take_of_lt (j:=n*G) (by rw[← h];exact A),O]
  exact E
theorem RowO.rowV {cls cap:Int} {r:Value} {a:List (List ByteArray)} (G:RowO I W cls cap r a):RowV cls cap W r a:=by
 obtain⟨base,R,h,S,E⟩:=G
 obtain⟨ao,A,rfl⟩:=an h
 refine⟨ao,A,rfl,fun k L H=>?_⟩
 obtain⟨cb,N,F,O,-⟩:=E.2 k L H
 obtain⟨g,c,e,K⟩:=fP h N
 cases e
 exact⟨g,0,rfl,cb,F,by rw[Nat.zero_add,Nat.mul_one];exact K,O⟩
def WayC (I:Nat→Prop) (W:World) (cls cap:Int) (h:List Value) (a:List (List (List ByteArray))):Prop:=h.length=a.length∧∀ (k:Nat) R,a[k]?=some R→∃ r,h[k]?=some r∧RowO I W cls cap r R
def WaysO (I:Nat→Prop) (W:World) (cls cap:Int) (v:Value) (a:List (List (List ByteArray))):Prop:=∃ base h,W.ownsRow base 191 1 v a.length h∧(∀ k,v.ownBlock=some k→I k)∧WayC I W cls cap h a
theorem WayC.kp {cls cap:Int} {h:List Value} {a:List (List (List ByteArray))} (A:WayC I W cls cap h a) (R:Kp I T W V) (H:233∉T) (K:9∉T) (N:130∉T):WayC I V cls cap h a:=by
 refine⟨A.1,fun k L O=>?_⟩
 obtain⟨cb,E,G⟩:=A.2 k L O
 exact⟨cb,E,G.kp R H K N⟩
theorem WayC.snoc {cls cap:Int} {G:List Value} {E:List (List (List ByteArray))} {r:Value} {A:List (List ByteArray)} (a:WayC I W cls cap G E) (O:RowO I W cls cap r A):WayC I W cls cap (G++[r]) (E++[A]):=by
 refine⟨by simp[a.1],fun k L' h=>?_⟩
 rcases ld h with h | ⟨rfl,rfl⟩
 ·obtain⟨K,H,N⟩:=a.2 k L' h
  exact⟨K,by rw[List.getElem?_append_left (ag H)];exact H,N⟩
 ·exact⟨r,by rw[← a.1];simp,O⟩
theorem WayC.nil {cls cap:Int}:WayC I W cls cap [] []:=⟨rfl,fun k L a=>by simp at a⟩
theorem WaysO.kp {cls cap:Int} {r:Value} {a:List (List (List ByteArray))} (K:WaysO I W cls cap r a) (A:Kp I T W V) (N:233∉T) (O:9∉T) (R:130∉T) (S:191∉T):WaysO I V cls cap r a:=by
 obtain⟨base,E,G,h,H⟩:=K
 exact⟨base,E,A.row G h S,h,H.kp A N O R⟩
theorem WaysO.arr {cls cap:Int} {v:Value} {a:List (List (List ByteArray))} (G:WaysO I W cls cap v a):Arr 1 (RwAt cls cap) W v a:=by
 obtain⟨base,R,h,S,E⟩:=G
 obtain⟨ao,A,rfl⟩:=an h
 refine⟨ao,A,rfl,fun k L H=>?_⟩
 obtain⟨r,N,O⟩:=E.2 k L H
 obtain⟨g,c,e,K⟩:=fP h N
 cases e
 exact⟨g,0,rfl,r,by rw[Nat.zero_add,Nat.mul_one];exact K,O.rowV⟩
def BkO (I:Nat→Prop) (W:World) (a:Nat) (l:List (CtrD × Int)):Prop:=∃ g,BnkO W a g l∧I a∧I g
theorem BnkO.kp {A g:Nat} {l:List (CtrD × Int)} (aa:BnkO W A g l) (a:Kp I T W V) (H:I A) (ag:I g) (G:248∉T) (ab:246∉T):BnkO V A g l:=by
 obtain⟨⟨ah,h,N⟩,ad⟩:=aa
 rcases ad with rfl | ⟨cap,cur,O,R⟩
 ·obtain⟨ao,c,rfl,-⟩:=N
  exact⟨⟨_,a _ _ _ H h G,Arr.nil _ _ _⟩,.inl rfl⟩
 ·rw[h] at O
  cases O
  have S:=a _ _ _ ag R ab
  have E:V.heap[g]?=W.heap[g]?:=by rw[R,S]
  refine⟨⟨_,a _ _ _ H h G,?_⟩,.inr ⟨cap,cur,a _ _ _ H h G,S⟩⟩
  obtain⟨ao,c,e,af⟩:=N
  refine⟨ao,c,e,fun i x ae=>?_⟩
  obtain⟨b,o,K,U,X,Y⟩:=af i x ae
  rw[K] at e
  cases e
  exact⟨g,0,K,bF U E,bF X E,bF Y E⟩
theorem BkO.kp {a:Nat} {l:List (CtrD × Int)} (G:BkO I W a l) (N:Kp I T W V) (H:248∉T) (K:246∉T):BkO I V a l:=by
 obtain⟨g,E,h,A⟩:=G
 exact⟨g,E.kp N h A H K,h,A⟩
theorem BkO.bnk {a:Nat} {l:List (CtrD × Int)} (A:BkO I W a l):Bnk W a l:=by
 obtain⟨g,h,E,G⟩:=A
 exact h.bnk
theorem GO.bko {w:World} {A:Nat} {l:List (CtrD × Int)} (a:GO 248 246 3 w A 1 #[.bool true,undef] l.length (cnC l) W) (h:∀ k,w.heap.size≤k→I k):BkO I W A l:=by
 have hb:=GO.bnk a
 obtain⟨ao,cap,E,G⟩:=a.bx
 by_cases hl:l=[]
 ·exact⟨A,⟨hb,.inl hl⟩,h _ a.new,h _ a.new⟩
 ·obtain⟨g,N,cur,e,H,K⟩:=aZ G (by simpa using hl)
  cases e
  exact⟨g,⟨hb,.inr ⟨_,cur,E,K⟩⟩,h _ a.new,h _ H⟩
def ActC (I:Nat→Prop) (W:World) (h:List Value) (A:List (Int × List (CtrD × Int))):Prop:=h.length=A.length*2∧∀ (i:Nat) a,A[i]?=some a→∃ E,h[i*2]?=some (.int .i64 a.1)∧h[i*2+1]?=some (pv E)∧BkO I W E a.2
def ActsO (I:Nat→Prop) (W:World) (v:Value) (a:List (Int × List (CtrD × Int))):Prop:=∃ base h,W.ownsRow base 143 2 v a.length h∧(∀ k,v.ownBlock=some k→I k)∧ActC I W h a
theorem ActC.kp {h:List Value} {a:List (Int × List (CtrD × Int))} (A:ActC I W h a) (U:Kp I T W V) (O:248∉T) (R:246∉T):ActC I V h a:=by
 refine⟨A.1,fun i E S=>?_⟩
 obtain⟨G,H,K,N⟩:=A.2 i E S
 exact⟨G,H,K,N.kp U O R⟩
theorem ActC.snoc {G:List Value} {h:List (Int × List (CtrD × Int))} {p:Int} {A:Nat} {l:List (CtrD × Int)} (a:ActC I W G h) (hb:BkO I W A l):ActC I W (G++[.int .i64 p,pv A]) (h++[(p,l)]):=by
 refine⟨by simp[a.1];omega,fun i N E=>?_⟩
 rcases ld E with E | ⟨rfl,rfl⟩
 ·obtain⟨O,H,K,R⟩:=a.2 i N E
  exact⟨O,by rw[List.getElem?_append_left (ag H)];exact H,by rw[List.getElem?_append_left (ag K)];exact K,R⟩
 ·refine⟨A,?_,?_,hb⟩
  ·rw[List.getElem?_append_right (by rw[a.1];omega),a.1];simp
  ·rw[List.getElem?_append_right (by rw[a.1];omega),a.1,show h.length*2+1 - h.length*2=1 by omega];simp
theorem ActC.nil:ActC I W [] []:=⟨rfl,fun k L a=>by simp at a⟩
theorem ActsO.kp {v:Value} {a:List (Int × List (CtrD × Int))} (K:ActsO I W v a) (A:Kp I T W V) (N:248∉T) (O:246∉T) (R:143∉T):ActsO I V v a:=by
 obtain⟨base,E,G,h,H⟩:=K
 exact⟨base,E,A.row G h R,h,H.kp A N O⟩
theorem ActsO.arr {v:Value} {h:List (Int × List (CtrD × Int))} (N:ActsO I W v h):Arr 2 AcAt W v h:=by
 obtain⟨base,ab,a,ae,K⟩:=N
 obtain⟨ao,G,rfl⟩:=an a
 refine⟨ao,G,rfl,fun i A O=>?_⟩
 obtain⟨E,U,X,Y⟩:=K.2 i A O
 obtain⟨g,c,e,R⟩:=fP a U
 cases e
 obtain⟨ad,aa,H,S⟩:=fP a X
 cases H
 exact⟨g,0,rfl,E,by rw[Nat.zero_add];exact R,by rw[Nat.zero_add];exact S,Y.bnk⟩
structure StO (I:Nat→Prop) (W:World) (s:SesD) (yb sb:Nat) (x:PS):Prop where
 out:∃ av wv,W.heap[sb]?=some (.cells #[pv yb,av,wv] 147 (0,0))∧I sb∧ActsO I W av (fD s x)∧WaysO I W s.cls s.cap wv x.ways
 ok:PSok s x
theorem StO.str {s:SesD} {h sb:Nat} {x:PS} (a:StO I W s h sb x):StR W s h sb x:=by
 obtain⟨A,K,E,N,G,H⟩:=a.out
 exact⟨⟨A,K,E,G.arr,H.arr⟩,a.ok⟩
theorem StO.kp {s:SesD} {E sb:Nat} {x:PS} (h:StO I W s E sb x) (a:Kp I [] W V):StO I V s E sb x:=by
 obtain⟨G,O,H,A,K,N⟩:=h.out
 exact⟨⟨G,O,a sb _ _ A H (by simp),A,K.kp a (by simp) (by simp) (by simp),N.kp a (by simp) (by simp) (by simp) (by simp)⟩,h.ok⟩
end
end Go.Proofs.YtohfkhjlnlahdaaGreat
