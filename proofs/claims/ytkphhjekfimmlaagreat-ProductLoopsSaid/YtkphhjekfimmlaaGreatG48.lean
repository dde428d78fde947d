/- Part of the proof. -/
import Derived.Test.YtkphhjekfimmlaaGreatG21
import Derived.WalkKit
import Derived.WalkSpells
import Derived.Deep.QuietTactic
import Derived.Deep.MidRow
import Derived.Deep.WholeRow
import Derived.BigQuiet
import Derived.StillTail
import Derived.Test.YtkphhjekfimmlaaGreatProg
import Derived.Laws.IdiomStrings
import Derived.Shelf.Bytes.SlSmallAll
import Derived.Deep.Upon
import Derived.ArgAppend
import Derived.Deep.AppendLies
import Derived.Maps.AppendAt
import Derived.Lib.Hide
import Derived.Deep.DeepMust
import Derived.WalkLawsBesides
import Derived.BigRegion
import Derived.Deep.RegionHeld3
import Derived.Deep.RegionLaw
import Derived.Deep.DeepCutAuto
import Derived.Laws.OwnMore
import Derived.Lib.Builder
import Derived.Maps.OwnSet
import Derived.Maps.OwnOps
import Derived.Laws.StructEq
import Derived.Laws.EntriesVeiled
import Derived.Laws.Concat
import Derived.Test.YtkphhjekfimmlaaGreatG20
import Derived.Sort.CutIn
import Derived.OrdersIn
import Derived.Shelf.SortM.Plain
import Derived.Shelf.SortM.SortNone
import Derived.Lib.AppendStr
import Derived.Test.YtkphhjekfimmlaaGreatG24
import Derived.Test.YtkphhjekfimmlaaGreatG40
import Derived.Test.YtkphhjekfimmlaaGreatG38
import Derived.Test.YtkphhjekfimmlaaGreatG41
set_option linter.all false
namespace Go.Proofs.YtkphhjekfimmlaaGreat
open Go
section
variable {s:SesD} {K:List UInt8} {at' i k m:Nat} {ps:List Nat} {vs:List (List Int)}
def kAt (K:List UInt8) (p:Nat):Nat:=(K.getD p 0).toNat
theorem kAt_lt (K:List UInt8) (p:Nat):kAt K p < 256:=UInt8.toNat_lt _
theorem drop_cons {K:List UInt8} {p:Nat} (h:p < K.length):K.drop p=K.getD p 0 :: K.drop (p + 1):=by
 rw[List.drop_eq_getElem_cons h,List.getD_eq_getElem?_getD,List.getElem?_eq_getElem h];rfl
def kVals (K:List UInt8) (p k:Nat):List Int:=valsOf (K.drop p) k
theorem kVals_succ (K:List UInt8) (p k:Nat):kVals K p (k + 1)=kVals K p k ++ [256 * (kAt K (p + 2 * k):Int) + (kAt K (p + 2 * k + 1):Int)]:=by
 unfold kVals kAt
 rw[valsOf]
 simp only[List.getD_eq_getElem?_getD,List.getElem?_drop]
 rw[show p + (2 * k + 1)=p + 2 * k + 1 by omega]
theorem kVals_len (K:List UInt8) (p k:Nat):(kVals K p k).length=k:=valsOf_length _ _
theorem kVals_ge (K:List UInt8) (p k:Nat):∀ v∈kVals K p k,0≤v:=valsOf_ge _ _
def RdR (s:SesD) (K:List UInt8) (i at':Nat) (ps:List Nat) (vs:List (List Int)):Prop:=parseRoles s K i=some (ps,vs,K.drop at')
theorem RdR.start (s:SesD) (K:List UInt8):RdR s K 0 0 [] []:=rfl
theorem parseRoles_len {s:SesD} {K:List UInt8}:∀ (n:Nat) (p1:List Nat) (v1:List (List Int)) (b1:List UInt8),parseRoles s K n=some (p1,v1,b1)→p1.length=n∧v1.length=n:=by
 intro n
 induction n with
 | zero=>intro p1 v1 b1 h;cases h;exact⟨rfl,rfl⟩
 | succ n ih =>
   intro p1 v1 b1 h
   rw[parseRoles] at h
   cases h1:parseRoles s K n with
   | none=>rw[h1] at h;cases h
   | some x =>
     obtain⟨p1,v1,b1⟩:=x
     rw[h1] at h
     simp only at h
     cases h2:parseRole (s.rol n) b1 with
     | none=>rw[h2] at h;cases h
     | some y =>
       obtain⟨p,v,b2⟩:=y
       rw[h2] at h
       simp only[Option.some.injEq,Prod.mk.injEq] at h
       obtain⟨rfl,rfl,-⟩:=h
       obtain⟨e1,e2⟩:=ih _ _ _ h1
       simp[e1,e2]
theorem RdR.len (h:RdR s K i at' ps vs):ps.length=i∧vs.length=i:=parseRoles_len _ _ _ _ h
theorem RdR.no (h:RdR s K i at' ps vs) (hi:i < s.roles.length) (hp:parseRole (s.rol i) (K.drop at')=none):decP s K=none:=by
 refine dec_none_roles (i:=i + 1) ?_ (by omega)
 rw[parseRoles,h]
 simp only
 rw[hp]
theorem parseRole_at {r:RolD} {K:List UInt8} {at':Nat} (h:at' < K.length):parseRole r (K.drop at')=if r.sts.length≤kAt K at' then none
  else if K.length < at' + 1 + 2 * r.ctrs.length then none
  else if fitsV r.ctrs (kVals K (at' + 1) r.ctrs.length)=true then some (kAt K at',kVals K (at' + 1) r.ctrs.length,K.drop (at' + 1 + 2 * r.ctrs.length))
  else none:=by
 rw[drop_cons h]
 unfold parseRole kVals kAt
 simp only[List.drop_drop,List.length_drop]
 split
 ·rfl
 ·exact if_iff (show K.length - (at' + 1) < 2 * r.ctrs.length↔K.length < at' + 1 + 2 * r.ctrs.length by omega) _ _
theorem RdR.short (h:RdR s K i at' ps vs) (hi:i < s.roles.length) (hl:K.length < at' + 1 + 2 * (s.rol i).ctrs.length):decP s K=none:=by
 refine h.no hi ?_
 by_cases h0:at' < K.length
 ·rw[parseRole_at h0,if_pos hl]
  split <;> rfl
 ·rw[List.drop_eq_nil_of_le (by omega)];rfl
theorem RdR.big (h:RdR s K i at' ps vs) (hi:i < s.roles.length) (hl:at' + 1 + 2 * (s.rol i).ctrs.length≤K.length) (hb:(s.rol i).sts.length≤kAt K at'):decP s K=none:=
 h.no hi (by rw[parseRole_at (by omega),if_pos hb])
theorem RdR.over (h:RdR s K i at' ps vs) (hi:i < s.roles.length) (hl:at' + 1 + 2 * (s.rol i).ctrs.length≤K.length) (hb:kAt K at' < (s.rol i).sts.length) (hf:fitsV (s.rol i).ctrs (kVals K (at' + 1) (s.rol i).ctrs.length)=false):decP s K=none:=
 h.no hi (by rw[parseRole_at (by omega),if_neg (by omega),if_neg (by omega),hf];rfl)
theorem RdR.step (h:RdR s K i at' ps vs) (hi:i < s.roles.length) (hl:at' + 1 + 2 * (s.rol i).ctrs.length≤K.length) (hb:kAt K at' < (s.rol i).sts.length) (hf:fitsV (s.rol i).ctrs (kVals K (at' + 1) (s.rol i).ctrs.length)=true) :
  RdR s K (i + 1) (at' + 1 + 2 * (s.rol i).ctrs.length) (ps ++ [kAt K at']) (vs ++ [kVals K (at' + 1) (s.rol i).ctrs.length]):=by
 unfold RdR
 rw[parseRoles,h]
 simp only
 rw[parseRole_at (by omega),if_neg (by omega),if_neg (by omega),if_pos hf]
structure RdW (s:SesD) (K:List UInt8) (ps:List Nat) (vs:List (List Int)) (i k at':Nat) (Ws:List (List (List ByteArray))) (R:List (List ByteArray)):Prop where
 out:∃ a0 a1,RdR s K s.roles.length a0 ps vs∧parseWays s (K.drop a0) i=some (Ws,K.drop a1)∧parseRow s.cap i (K.drop a1) k=some (R,K.drop at')
variable {Ws:List (List (List ByteArray))} {R:List (List ByteArray)} {L:List ByteArray}
theorem RdW.start {a0:Nat} (h:RdR s K s.roles.length a0 ps vs):RdW s K ps vs 0 0 a0 [] []:=⟨a0,a0,h,rfl,rfl⟩
theorem RdW.row (h:RdW s K ps vs i s.roles.length at' Ws R):RdW s K ps vs (i + 1) 0 at' (Ws ++ [R]) []:=by
 obtain⟨a0,a1,h1,h2,h3⟩:=h.out
 exact⟨a0,at',h1,by rw[parseWays,h2];simp only;rw[h3],rfl⟩
theorem RdW.same (h:RdW s K ps vs i i at' Ws R):RdW s K ps vs i (i + 1) at' Ws (R ++ [[]]):=by
 obtain⟨a0,a1,h1,h2,h3⟩:=h.out
 refine⟨a0,a1,h1,h2,?_⟩
 rw[parseRow,h3]
 simp only
 unfold parseWay
 rw[if_pos rfl]
theorem RdW.bad (h:RdW s K ps vs i k at' Ws R) (hi:i < s.roles.length) (hk:k < s.roles.length) (hn:parseWay s.cap i k (K.drop at')=none):decP s K=none:=by
 obtain⟨a0,a1,h1,h2,h3⟩:=h.out
 refine dec_none_ways h1 (i:=i + 1) ?_ (by omega)
 rw[parseWays,h2]
 simp only
 rw[parseRow_none (i:=k + 1) (by rw[parseRow,h3];simp only;rw[hn]) (by omega)]
theorem RdW.end (h:RdW s K ps vs i k at' Ws R) (hi:i < s.roles.length) (hk:k < s.roles.length) (hne:i≠k) (hl:K.length≤at'):decP s K=none:=by
 refine h.bad hi hk ?_
 unfold parseWay
 rw[if_neg hne,List.drop_eq_nil_of_le hl]
def RdM (s:SesD) (K:List UInt8) (p m at':Nat) (L:List ByteArray):Prop:=parseMsgs s.cap (K.drop (p + 1)) m=some (L,K.drop at')
theorem RdM.start (s:SesD) (K:List UInt8) (p:Nat):RdM s K p 0 (p + 1) []:=rfl
theorem way_at {cap:Int} {p:Nat} (hne:i≠k) (hp:p < K.length):parseWay cap i k (K.drop p)=parseMsgs cap (K.drop (p + 1)) (kAt K p):=by
 unfold parseWay
 rw[if_neg hne,drop_cons hp]
 rfl
theorem RdM.done {p:Nat} (h:RdW s K ps vs i k p Ws R) (hne:i≠k) (hp:p < K.length) (hm:RdM s K p (kAt K p) at' L):RdW s K ps vs i (k + 1) at' Ws (R ++ [L]):=by
 obtain⟨a0,a1,h1,h2,h3⟩:=h.out
 refine⟨a0,a1,h1,h2,?_⟩
 rw[parseRow,h3]
 simp only
 rw[way_at hne hp,hm]
def kMsg (K:List UInt8) (p:Nat):ByteArray:=⟨((K.drop (p + 1)).take (kAt K p)).toArray⟩
theorem RdM.fail {p:Nat} (h:RdW s K ps vs i k p Ws R) (hi:i < s.roles.length) (hk:k < s.roles.length) (hne:i≠k) (hp:p < K.length) (hm:RdM s K p m at' L) (hlt:m < kAt K p) (hn:parseMsg s.cap L (K.drop at')=none):decP s K=none:=by
 refine h.bad hi hk ?_
 rw[way_at hne hp]
 refine parseMsgs_none (i:=m + 1) ?_ (by omega)
 rw[parseMsgs,hm]
 exact hn
theorem RdM.end {p:Nat} (h:RdW s K ps vs i k p Ws R) (hi:i < s.roles.length) (hk:k < s.roles.length) (hne:i≠k) (hp:p < K.length) (hm:RdM s K p m at' L) (hlt:m < kAt K p) (hl:K.length≤at'∨K.length < at' + 1 + kAt K at'):decP s K=none:=by
 refine hm.fail h hi hk hne hp hlt ?_
 by_cases h0:at' < K.length
 ·rw[drop_cons h0]
  unfold parseMsg
  simp only
  rw[if_pos (by rw[List.length_drop];have:=hl;unfold kAt at this;omega)]
 ·rw[List.drop_eq_nil_of_le (by omega)];rfl
theorem RdM.no {p:Nat} (h:RdW s K ps vs i k p Ws R) (hi:i < s.roles.length) (hk:k < s.roles.length) (hne:i≠k) (hp:p < K.length) (hm:RdM s K p m at' L) (hlt:m < kAt K p) (hl:at' + 1 + kAt K at'≤K.length) (he:putE s.cap L (kMsg K at')≠0):decP s K=none:=by
 refine hm.fail h hi hk hne hp hlt ?_
 rw[drop_cons (by omega)]
 unfold parseMsg
 simp only
 unfold kMsg kAt at he
 unfold kAt at hl
 rw[if_neg (by rw[List.length_drop];omega),if_neg he]
theorem RdM.step {p:Nat} (hm:RdM s K p m at' L) (hl:at' + 1 + kAt K at'≤K.length) (he:putE s.cap L (kMsg K at')=0):RdM s K p (m + 1) (at' + 1 + kAt K at') (L ++ [kMsg K at']):=by
 unfold RdM
 rw[parseMsgs,hm]
 simp only
 rw[drop_cons (by omega)]
 unfold parseMsg
 simp only
 unfold kMsg kAt at he ⊢
 unfold kAt at hl
 rw[if_neg (by rw[List.length_drop];omega),if_pos he]
 simp only[List.drop_drop]
theorem RdM.cap {p:Nat} (hc:0≤s.cap) (hm:RdM s K p m at' L):(L.length:Int)≤s.cap:=(parseMsgs_ok hc hm).1
theorem RdW.all (h:RdW s K ps vs s.roles.length 0 at' Ws R):parseP s K=some ⟨ps,vs,Ws⟩:=by
 obtain⟨a0,a1,h1,h2,h3⟩:=h.out
 unfold parseP
 rw[h1]
 simp only
 rw[h2]
theorem RdW.dec (h:RdW s K ps vs s.roles.length 0 at' Ws R):decP s K=if keyP s ⟨ps,vs,Ws⟩=K then some ⟨ps,vs,Ws⟩ else none:=by
 unfold decP
 rw[h.all]
theorem RdW.lens (h:RdW s K ps vs i k at' Ws R):Ws.length=i∧R.length=k∧ps.length=s.roles.length∧vs.length=s.roles.length:=by
 obtain⟨a0,a1,h1,h2,h3⟩:=h.out
 have hw:∀ (i:Nat) (Ws:List (List (List ByteArray))) (b b':List UInt8),parseWays s b i=some (Ws,b')→Ws.length=i:=by
  intro i
  induction i with
  | zero=>intro Ws b b' h;cases h;rfl
  | succ i ih =>
    intro Ws b b' h
    rw[parseWays] at h
    cases g1:parseWays s b i with
    | none=>rw[g1] at h;cases h
    | some x =>
      obtain⟨W1,b1⟩:=x
      rw[g1] at h
      simp only at h
      cases g2:parseRow s.cap i b1 s.roles.length with
      | none=>rw[g2] at h;cases h
      | some y =>
        obtain⟨R1,b2⟩:=y
        rw[g2] at h
        simp only[Option.some.injEq,Prod.mk.injEq] at h
        obtain⟨rfl,-⟩:=h
        simp[ih _ _ _ g1]
 have hr:∀ (k:Nat) (R:List (List ByteArray)) (b b':List UInt8),parseRow s.cap i b k=some (R,b')→R.length=k:=by
  intro k
  induction k with
  | zero=>intro R b b' h;cases h;rfl
  | succ k ih =>
    intro R b b' h
    rw[parseRow] at h
    cases g1:parseRow s.cap i b k with
    | none=>rw[g1] at h;cases h
    | some x =>
      obtain⟨R1,b1⟩:=x
      rw[g1] at h
      simp only at h
      cases g2:parseWay s.cap i k b1 with
      | none=>rw[g2] at h;cases h
      | some y =>
        obtain⟨L1,b2⟩:=y
        rw[g2] at h
        simp only[Option.some.injEq,Prod.mk.injEq] at h
        obtain⟨rfl,-⟩:=h
        simp[ih _ _ _ g1]
 have:=RdR.len h1
 exact⟨hw _ _ _ _ h2,hr _ _ _ _ h3,this.1,this.2⟩
end
end Go.Proofs.YtkphhjekfimmlaaGreat
namespace Go.Proofs.YtkphhjekfimmlaaGreat
open Go.RowKit Go.BigFrame
structure Shp (s:SesD) (y:PS):Prop where
 pl:y.pos.length=s.roles.length
 vl:y.vals.length=s.roles.length
 wl:y.ways.length=s.roles.length
 wr:∀ i,i < s.roles.length→(y.ways.getD i []).length=s.roles.length
theorem getD_set {α:Type} {l:List α} {i j:Nat} {x d:α} (h:i < l.length):(l.set i x).getD j d=if j=i then x else l.getD j d:=by
 rw[List.getD_eq_getElem?_getD,List.getElem?_set]
 by_cases e:i=j
 ·subst e;rw[if_pos rfl,if_pos h,if_pos rfl];rfl
 ·rw[if_neg e,if_neg (fun h=>e h.symm)];simp[List.getD_eq_getElem?_getD]
theorem list_getD {α:Type} {d:α} {l r:List α} (hl:l.length=r.length) (h:∀ i,i < l.length→l.getD i d=r.getD i d):l=r:=by
 refine List.ext_getElem hl fun i h1 h2=>?_
 have:=h i h1
 rwa [List.getD_eq_getElem?_getD,List.getD_eq_getElem?_getD,List.getElem?_eq_getElem h1,List.getElem?_eq_getElem h2] at this
structure Y1 (s:SesD) (i:Nat) (ps:List Nat) (vs:List (List Int)) (y:PS):Prop extends Shp s y where
 p:∀ j,j < i→y.at j=ps.getD j 0∧y.bank j=vs.getD j []
 b:∀ j,j < s.roles.length→(y.bank j).length=(s.rol j).ctrs.length
 w:∀ a b,y.way a b=[]
section
variable {s:SesD} {i k:Nat} {ps:List Nat} {vs:List (List Int)} {y:PS} {Ws:List (List (List ByteArray))} {R:List (List ByteArray)} {L:List ByteArray}
theorem Y1.start (hs:SesOk s):Y1 s 0 [] [] (firstP s):=by
 have h:=first_ok hs
 exact⟨⟨h.pl,h.vl,h.wl,h.wr⟩,fun j hj=>by omega,fun j hj=>(h.vb j hj).1,first_way s⟩
theorem Y1.step (h:Y1 s i ps vs y) (hi:i < s.roles.length) (h1:ps.length=i) (h2:vs.length=i) (p:Nat) {v:List Int} (hv:v.length=(s.rol i).ctrs.length) :
  Y1 s (i + 1) (ps ++ [p]) (vs ++ [v]) { y with pos:=y.pos.set i p,vals:=y.vals.set i v }:=by
 have l1:i < y.pos.length:=by rw[h.pl];exact hi
 have l2:i < y.vals.length:=by rw[h.vl];exact hi
 refine⟨⟨by simpa using h.pl,by simpa using h.vl,h.wl,h.wr⟩,fun j hj=>?_,fun j hj=>?_,h.w⟩
 ·show (y.pos.set i p).getD j 0=_∧(y.vals.set i v).getD j []=_
  rw[getD_set l1,getD_set l2,getD_snoc (by omega),getD_snoc (by omega),h1,h2]
  by_cases e:j=i
  ·rw[if_pos e,if_pos e,if_pos e];exact⟨rfl,by rw[if_pos e]⟩
  ·rw[if_neg e,if_neg e,if_neg e,if_neg e];exact h.p j (by omega)
 ·show ((y.vals.set i v).getD j []).length=_
  rw[getD_set l2]
  by_cases e:j=i
  ·rw[if_pos e,e];exact hv
  ·rw[if_neg e];exact h.b j hj
def wf (Ws:List (List (List ByteArray))) (R:List (List ByteArray)) (L:List ByteArray) (i k a b:Nat):List ByteArray:=
 if a < i then wayOf Ws a b else if a=i then (if b < k then R.getD b [] else if b=k then L else []) else []
structure Y2 (s:SesD) (ps:List Nat) (vs:List (List Int)) (f:Nat→Nat→List ByteArray) (y:PS):Prop extends Shp s y where
 p:y.pos=ps
 v:y.vals=vs
 w:∀ a b,a < s.roles.length→b < s.roles.length→y.way a b=f a b
theorem Y1.all (h:Y1 s s.roles.length ps vs y) (h1:ps.length=s.roles.length) (h2:vs.length=s.roles.length):Y2 s ps vs (wf [] [] [] 0 0) y:=by
 refine⟨h.toShp,list_getD (d:=0) (by rw[h.pl,h1]) fun j hj=>(h.p j (by rw[h.pl] at hj;exact hj)).1,list_getD (d:=[]) (by rw[h.vl,h2]) fun j hj=>(h.p j (by rw[h.vl] at hj;exact hj)).2,fun a b _ _=>?_⟩
 rw[h.w a b]
 unfold wf
 rw[if_neg (by omega)]
 split
 ·rw[if_neg (by omega)];split <;> rfl
 ·rfl
theorem Y2.congr {f g:Nat→Nat→List ByteArray} (h:Y2 s ps vs f y) (e:∀ a b,a < s.roles.length→b < s.roles.length→f a b=g a b):Y2 s ps vs g y:=
 ⟨h.toShp,h.p,h.v,fun a b ha hb=>(h.w a b ha hb).trans (e a b ha hb)⟩
theorem Y2.here (h:Y2 s ps vs (wf Ws R L i k) y) (hi:i < s.roles.length) (hk:k < s.roles.length):y.way i k=L:=by
 rw[h.w i k hi hk]
 unfold wf
 rw[if_neg (by omega),if_pos rfl,if_neg (by omega),if_pos rfl]
theorem Y2.set (h:Y2 s ps vs (wf Ws R L i k) y) (hi:i < s.roles.length) (hk:k < s.roles.length) (L':List ByteArray):Y2 s ps vs (wf Ws R L' i k) { y with ways:=setWay y.ways i k L' }:=by
 have l1:i < y.ways.length:=by rw[h.wl];exact hi
 have l2:k < (y.ways.getD i []).length:=by rw[h.wr i hi];exact hk
 refine⟨⟨h.pl,h.vl,(setWay_length _ _ _ _).trans h.wl,fun a ha=>setWay_row.trans (h.wr a ha)⟩,h.p,h.v,fun a b ha hb=>?_⟩
 show wayOf (setWay y.ways i k L') a b=_
 rw[wayOf_set l1 l2]
 have hw:=h.w a b ha hb
 unfold wf at hw ⊢
 by_cases e:a=i∧b=k
 ·obtain⟨rfl,rfl⟩:=e
  rw[if_pos ⟨rfl,rfl⟩,if_neg (by omega),if_pos rfl,if_neg (by omega),if_pos rfl]
 ·rw[if_neg e]
  refine hw.trans ?_
  split
  ·rfl
  ·split
   ·split
    ·rfl
    ·rw[if_neg (by omega),if_neg (by omega)]
   ·rfl
theorem Y2.next (h:Y2 s ps vs (wf Ws R L i k) y) (hR:R.length=k):Y2 s ps vs (wf Ws (R ++ [L]) [] i (k + 1)) y:=by
 refine h.congr fun a b _ _=>?_
 unfold wf
 split
 ·rfl
 ·split
  ·by_cases e:b < k
   ·rw[if_pos e,if_pos (by omega),getD_snoc (by omega),if_neg (by omega)]
   ·rw[if_neg e]
    by_cases e2:b=k
    ·rw[if_pos e2,if_pos (by omega),getD_snoc (by omega),if_pos (by omega)]
    ·rw[if_neg e2,if_neg (by omega)];split <;> rfl
  ·rfl
theorem Y2.row (h:Y2 s ps vs (wf Ws R [] i s.roles.length) y) (hW:Ws.length=i):Y2 s ps vs (wf (Ws ++ [R]) [] [] (i + 1) 0) y:=by
 refine h.congr fun a b _ hb=>?_
 unfold wf wayOf
 by_cases e:a < i
 ·rw[if_pos e,if_pos (by omega),getD_snoc (by omega),if_neg (by omega)]
 ·rw[if_neg e]
  by_cases e2:a=i
  ·rw[if_pos e2,if_pos hb,if_pos (by omega),getD_snoc (by omega),if_pos (by omega)]
  ·rw[if_neg e2,if_neg (by omega)]
   split
   ·rw[if_neg (by omega)];split <;> rfl
   ·rfl
theorem Y2.all (h:Y2 s ps vs (wf Ws R L s.roles.length k) y) (hW:Ws.length=s.roles.length) (hr:∀ i,i < s.roles.length→(Ws.getD i []).length=s.roles.length):y=⟨ps,vs,Ws⟩:=by
 obtain⟨yp,yv,yw⟩:=y
 obtain rfl:yp=ps:=h.p
 obtain rfl:yv=vs:=h.v
 have hw:yw=Ws:=by
  refine list_getD (d:=[]) ((show yw.length=_ from h.wl).trans hW.symm) fun a ha=>?_
  have ha':a < s.roles.length:=by rw[← show yw.length=_ from h.wl];exact ha
  refine list_getD (d:=[]) ((h.wr a ha').trans (hr a ha').symm) fun b hb=>?_
  have hb':b < s.roles.length:=by rw[← h.wr a ha'];exact hb
  have:=h.w a b ha' hb'
  unfold wf at this
  rw[if_pos ha'] at this
  exact this
 rw[hw]
end
abbrev deT:List TypeId:=[3,173,168]
structure DQ (w W2:World) (s:SesD) (ba bb bw:Nat) (bi:Nat→Nat) (y:PS) (W:World):Prop where
 f:Frm [] w W
 k:Kt deT W2 W
 ro:RO W s ba bb bw bi y
section
variable {w W2 W V:World} {s:SesD} {ba bb bw:Nat} {bi:Nat→Nat} {y:PS}
theorem DQ.frm (h:DQ w W2 s ba bb bw bi y W) (hf:Frm [] W V):DQ w W2 s ba bb bw bi y V:=⟨h.f.trans hf,h.k.trans (Kt.frm hf),h.ro.frm hf⟩
theorem DQ.setAt (h:DQ w W2 s ba bb bw bi y W) (hl:Shp s y) {i:Nat} (hi:i < s.roles.length) (p:Nat) (hlo:w.heap.size≤ba):DQ w W2 s ba bb bw bi { y with pos:=y.pos.set i p } (W.setCell ⟨ba,i,none⟩ (.int .i64 p)):=by
 obtain⟨c,hb⟩:=h.ro.ta
 exact⟨h.f.setCell _ (.inr hlo) _,h.k.set hb (by simp) _,h.ro.setAt hi p hl.pl⟩
theorem DQ.setBank (h:DQ w W2 s ba bb bw bi y W) (hl:Shp s y) {i:Nat} (hi:i < s.roles.length) {dv vv:Value} {vs:List Int} (hd:DfV W dv (s.rol i).ctrs) (hv:VlV W ba vv vs) (hlo:w.heap.size≤bb) :
  DQ w W2 s ba bb bw bi { y with vals:=y.vals.set i vs } ((W.setCell ⟨bb,i * 2,none⟩ dv).setCell ⟨bb,i * 2 + 1,none⟩ vv):=by
 obtain⟨c,hb⟩:=h.ro.tb
 exact⟨(h.f.setCell _ (.inr hlo) _).setCell _ (.inr hlo) _,(h.k.set hb (by simp) _).set (block_setCell hb (i * 2) dv) (by simp) _,h.ro.setBank hi hd hv hl.vl⟩
theorem DQ.setWay (h:DQ w W2 s ba bb bw bi y W) (hl:Shp s y) {i m:Nat} (hi:i < s.roles.length) (hm:m < s.roles.length) {lv:Value} {L:List ByteArray} (hL:Lf W lv L) (hlo:w.heap.size≤bi i) :
  DQ w W2 s ba bb bw bi { y with ways:=setWay y.ways i m L } (((W.setCell ⟨bi i,m * 3,none⟩ (.int .i64 s.cls)).setCell ⟨bi i,m * 3 + 1,none⟩ (.int .i64 s.cap)).setCell ⟨bi i,m * 3 + 2,none⟩ lv):=by
 obtain⟨c,hb⟩:=h.ro.ti i hi
 have b1:=block_setCell hb (m * 3) (.int .i64 s.cls)
 have b2:=block_setCell b1 (m * 3 + 1) (.int .i64 s.cap)
 exact⟨((h.f.setCell _ (.inr hlo) _).setCell _ (.inr hlo) _).setCell _ (.inr hlo) _,((h.k.set hb (by simp) _).set b1 (by simp) _).set b2 (by simp) _,h.ro.setWay hi hm hL hl.wl (hl.wr i hi)⟩
end
def QcTo (w:World) (s:SesD) (r:Option PS) (u:Value) (w':World):Prop:=
 Frm [] w w'∧((∃ x yv,r=some x∧u=.tuple #[yv,.bool true]∧RSt w.heap.size w' s yv x)∨(r=none∧∃ A:Array Value,u=.tuple #[.agg A,.bool false]∧A.size=3∧A.all (·.oneCell')=true))
end Go.Proofs.YtkphhjekfimmlaaGreat
namespace Go.Proofs.YtkphhjekfimmlaaGreat
open Go.RowKit Go.BigFrame
theorem w64 {x:Int} (h0:-4000000≤x) (h1:x≤4000000):IntKind.i64.wrap x=x:=by rw[IntKind.wrap_i64];omega
set_option maxHeartbeats 16000000 in
set_option maxRecDepth 100000 in
noncomputable def qDeS:PSigma fun P:Prop=>P→∀ (s:SesD) (sv:Value) (key:ByteArray) (w:World),SesV w sv s→SesOk s→key.size≤300→Calls Tryz.prog 29 #[sv,.string key] w (RetV (QcTo w s (decP s (byt key)))):=by
 apply PSigma.mk
 case snd =>
  intro hP
  have HP0:=Lib.hid hP
  clear hP
  intro s sv key w hs hok hks
  have HOK:=Lib.hid hok;have HSV:=Lib.hid hs
  obtain⟨rv,rfl,hr⟩:=hs
  obtain⟨ao,cap,rfl⟩:=hr.shape
  obtain⟨n,hn⟩:∃ n,s.roles.length=n:=⟨_,rfl⟩
  have h4:n≤4:=hn ▸ hok.n4
  obtain⟨N,hN⟩:∃ N,key.size=N:=⟨_,rfl⟩
  obtain⟨K,hK⟩:∃ K,byt key=K:=⟨_,rfl⟩
  have HKL:Hid (K.length=N):=Lib.hid (by rw[← hK,byt_length,hN])
  have HKB:Hid (∀ p (h:p < key.size),(key[p]'h).toNat=kAt K p):=Lib.hid fun p h=>by
   rw[← hK]
   unfold kAt
   rw[List.getD_eq_getElem?_getD,List.getElem?_eq_getElem (by rw[byt_length];exact h)]
   rfl
  have HKE:=Lib.hid hK
  rw[hN] at hks
  obtain⟨W0,hW0⟩:∃ W0,(w.alloc (.cells #[.string s.name,.slice ao s.roles.length cap,.int .i64 s.cls,.int .i64 s.cap] 25)).alloc (.cells #[.slice none 0 0,.slice none 0 0,.slice none 0 0] 35)=W0:=⟨_,rfl⟩
  have hf0:Frm [] w W0:=by rw[← hW0];exact((Frm.refl _ _).alloc _).alloc _
  have hb0:W0.heap[w.heap.size]?=some (.cells #[.string s.name,.slice ao s.roles.length cap,.int .i64 s.cls,.int .i64 s.cap] 25 (0,0)):=by rw[← hW0];exact alloc_at (heap_alloc_new _ _)
  have hb1:W0.heap[w.heap.size + 1]?=some (.cells #[.slice none 0 0,.slice none 0 0,.slice none 0 0] 35 (0,0)):=by rw[← hW0];exact alloc_top (by simp)
  have HE:=Lib.hid hW0
  have HRL:=Lib.hid hr
  have CF:=Lib.hid (qFirst_any s _ W0 (HSV.out.frm hf0) hok)
  rw[hn] at hb0 HE HRL CF ⊢
  have HN:=Lib.hid hn;have HB0:=Lib.hid hb0;have HB1:=Lib.hid hb1;have HF0:=Lib.hid hf0;have HNN:=Lib.hid hN
  obtain⟨D,hD⟩:∃ D,decP s K=D:=⟨_,rfl⟩
  have HDE:=Lib.hid hD
  rw[hK,hD]
  have hlw:w.heap.size + 1 < W0.heap.size:=lt_of_block hb1
  clear hr hok hW0 hf0 hb0 hb1 hn hK hD
  go_enter Tryz.func29,Tryz.ntmps29
  go_upto_region 1 with fail
  rw[HE.out]
  clear HE
  go_upto_region 2 with (first
   | (refine wpList_load_whole rfl 25 _ rfl _ rfl _ 25 HB0.out _ Tryz.underlying25 rfl (by kernel_rfl) ?_)
   | (go_at_call 49;go_must (refine CF.out.mono ?_;clear CF;rintro e w1 ⟨v,rfl,hy,hf1⟩;obtain⟨ba,bb,bw,bi,ca,cb,cw,rfl,hro,l1,l2,l3,l4⟩:=hy.out;have HRO1:=Lib.hid hro;have HLO:=Lib.hid (And.intro l1 (And.intro l2 (And.intro l3 l4)));have HF1:=Lib.hid hf1;clear hy hro hf1 l1 l2 l3 l4;rw[HN.out]))
   | (refine wpList_store_row rfl 35 _ _ rfl _ _ _ _ rfl rfl (heap_alloc_new _ _) rfl (by kernel_rfl) (one3v ..) ?_;intro W2 hb3 hf3;have HB6:=Lib.hid hb3;have HF3:=Lib.hid (((Frm.refl [] w1).alloc _).then hf3 (by intro q hq;simp at hq;subst hq;exact .inr (Nat.le_refl _)));clear hb3 hf3))
  obtain⟨b6,hb6⟩:∃ b,w1.heap.size=b:=⟨_,rfl⟩
  rw[hb6] at HB6 ⊢
  have HF02:Hid (Frm [] W0 W2):=Lib.hid (HF1.out.trans HF3.out)
  have HC0:=Lib.hid (HF02.out.at HB0.out (by simp));have HC1:=Lib.hid (HF02.out.at HB1.out (by simp))
  have HDQ0:Hid (DQ w W2 s ba bb bw bi (firstP s) W2):=Lib.hid ⟨HF0.out.trans HF02.out,Kt.refl _ _,HRO1.out.frm HF3.out⟩
  have HLW:Hid (w.heap.size≤ba∧w.heap.size≤bb∧w.heap.size≤bw∧∀ i,i < s.roles.length→w.heap.size≤bi i):=Lib.hid (by
   obtain⟨l1,l2,l3,l4⟩:=HLO.out
   exact⟨by omega,by omega,by omega,fun i hi=>by have:=l4 i hi;omega⟩)
  have hl6:w.heap.size + 1 < b6:=by rw[← hb6];have:=HF1.out.size;omega
  have HSL:Hid (∀ V,Kt deT W2 V→V.cell? ⟨w.heap.size,1,none⟩=some (.slice ao n cap)∧V.cell? ⟨b6,0,none⟩=some (.slice (some ⟨ba,0,none⟩) n ca)∧V.cell? ⟨b6,1,none⟩=some (.slice (some ⟨bb,0,none⟩) n cb)∧V.cell? ⟨b6,2,none⟩=some (.slice (some ⟨bw,0,none⟩) n cw)):=Lib.hid fun V hV=>by
   have h0:=hV.cells HC0.out (by decide)
   have h6:=hV.cells HB6.out (by decide)
   exact⟨cell_of h0 1,cell_of h6 0,cell_of h6 1,cell_of h6 2⟩
  have HY0:=Lib.hid (Y1.start HOK.out)
  clear hb6 HF1 HF3 HRO1 HLO HB0 HB1 HF02 HF0
  go_upto_region 5 with fail
  go_loopw [7,9] (fun s7 s9 wr=>∃ (i p:Nat) (ps:List Nat) (vs:List (List Int)) (y:PS),s7=.int .i64 p∧s9=.int .i64 i∧i≤n∧p≤N∧Hid (RdR s K i p ps vs)∧Hid (Y1 s i ps vs y)∧DQ w W2 s ba bb bw bi y wr) (fun _ s9 _=>n - (intOf s9).toNat)
  case atStart=>exact⟨0,0,[],[],_,rfl,rfl,Nat.zero_le _,Nat.zero_le _,Lib.hid (RdR.start _ _),HY0,HDQ0.out⟩
  case round =>
   clear HY0 HDQ0
   obtain⟨i,p,ps,vs,y,rfl,rfl,hi,hpN,HRD,HY,hq⟩:=hrel
   have HQ:=Lib.hid hq
   clear hq
   obtain⟨wl,hwl⟩:∃ wl,wl=wr:=⟨_,rfl⟩
   subst hwl
   obtain⟨e1,-,-,-⟩:=HSL.out wl HQ.out.k
   by_cases hlt:i < n
   ·have hlt':(i:Int) < (n:Int):=by omega
    have hin:i < s.roles.length:=by rw[HN.out];exact hlt
    have HIN:=Lib.hid hin
    obtain⟨b,o,sv',cv,tv,rfl,⟨-,d1,d2,-⟩,h3⟩:=Rls.at HRL.out hin
    obtain⟨aS,kS,eS⟩:=h3.sts.shape
    obtain⟨aC,kC,eC⟩:=h3.ctrs.shape
    subst eS eC
    obtain⟨nS,hnS⟩:∃ q,(s.rol i).sts.length=q:=⟨_,rfl⟩
    obtain⟨nC,hnC⟩:∃ q,(s.rol i).ctrs.length=q:=⟨_,rfl⟩
    have hc4:nC≤4:=by rw[← hnC];exact(HOK.out.at hin).c4
    rw[hnS] at d1
    rw[hnC] at d2
    have HNS:=Lib.hid hnS;have HNC:=Lib.hid hnC
    have HDD:Hid (∀ V,Frm [] w V→V.cell? ⟨b,o + i * 4 + 1,none⟩=some (.slice aS nS kS)∧V.cell? ⟨b,o + i * 4 + 2,none⟩=some (.slice aC nC kC)):=Lib.hid fun V hV=>⟨hV.keep d1,hV.keep d2⟩
    obtain⟨d1',d2'⟩:=HDD.out wl HQ.out.f
    have hbl:=cell_lt d1'
    clear h3 hin hnS hnC d1 d2
    go_upto_region 8 with fail
    clear e1 d1' d2'
    have HCX:Hid (∀ V,Frm [] wl V→V.cell? ⟨w.heap.size,1,none⟩=some (.slice (some ⟨b,o,none⟩) n cap)∧V.cell? ⟨b,o + i * 4 + 1,none⟩=some (.slice aS nS kS)):=Lib.hid fun V hV=>by
     have hz:=HQ.out.frm hV
     obtain⟨q1,-⟩:=HSL.out V hz.k
     exact⟨q1,(HDD.out V hz.f).1⟩
    have j1:IntKind.i64.wrap ((p:Int) + 1)=(p:Int) + 1:=w64 (by omega) (by omega)
    have j2:IntKind.i64.wrap (2 * (nC:Int))=2 * (nC:Int):=w64 (by omega) (by omega)
    have j3:IntKind.i64.wrap ((p:Int) + 1 + 2 * (nC:Int))=(p:Int) + 1 + 2 * (nC:Int):=w64 (by omega) (by omega)
    by_cases hsh:N < p + 1 + 2 * nC
    ·have HDN:Hid (D=none):=Lib.hid (by rw[← HDE.out];exact HRD.out.short HIN.out (by rw[HKL.out,HNC.out];exact hsh))
     have g0:(N:Int) < (p:Int) + 1 + 2 * (nC:Int):=by omega
     have g1:decide ((N:Int) < (p:Int) + 1 + 2 * (nC:Int))=true:=decide_eq_true g0
     refine wp_region_cq (by kernel_rfl) (by kernel_rfl) ?_
     repeat (first
      | go_big_quiet_skip
      | (refine wpQuiet_want (by rfl) (fun K hK=>?_)
         first
          | (refine quiet_move _ (by rfl) (hK _ ?_))
          | (refine quiet_assign _ (by rfl) (hK _ ?_))
          | (apply Exists.intro
             refine⟨fun w' hC=>?_,hK _ ?_⟩
             ·(unfold Oper.quietAt
               obtain⟨x0,x1⟩:=HCX.out w' hC
               clear hC
               go_simp
               try exact⟨rfl,rfl⟩
               try rfl))
         clear hK K
         try simp only[nrm,Act.eval,nrq]))
     refine wpQuiet_nil ?_
     intro w3 hf3
     have HQ3:=Lib.hid (HQ.out.frm hf3)
     clear hf3
     have HZ6:=Lib.hid ((HQ3.out).k.cells HB6.out (by decide));have HZ1:=Lib.hid ((HQ3.out).k.cells HC1.out (by decide))
     have HZF:=Lib.hid (HQ3.out).f
     go_wp2_with (first
      | (refine wpList_load_whole rfl 35 _ rfl _ rfl _ 35 HZ6.out _ Tryz.underlying35 rfl (by kernel_rfl) ?_)
      | (refine wpList_store_row rfl 35 _ _ rfl _ _ _ _ rfl rfl HZ1.out rfl (by kernel_rfl) (one3v ..) ?_;intro w7 hb7 hf7;have HB7:=Lib.hid hb7;have HF7:=Lib.hid hf7;clear hb7 hf7))
     refine bodyPost_ret (results_s2 rfl rfl rfl HB7.out rfl) rfl ⟨_,rfl,HZF.out.then HF7.out (by intro k hk;simp at hk;omega),.inr ⟨HDN.out,_,rfl,rfl,one3v ..⟩⟩
    ·have g0:¬ (N:Int) < (p:Int) + 1 + 2 * (nC:Int):=by omega
     have g1:decide ((N:Int) < (p:Int) + 1 + 2 * (nC:Int))=false:=decide_eq_false g0
     have hpk:p < key.size:=by rw[hN];omega
     have hpk':p < N:=by omega
     have hpk'':(p:Int) < (N:Int):=by omega
     have hz:=HKB.out p hpk
     obtain⟨a,ha⟩:∃ a,kAt K p=a:=⟨_,rfl⟩
     have HA:=Lib.hid ha
     have ha256:a < 256:=by rw[← ha];exact kAt_lt K p
     rw[ha] at hz
     have j0:IntKind.i64.wrap (a:Int)=(a:Int):=w64 (by omega) (by omega)
     clear ha
     by_cases hbg:nS≤a
     ·have HDN:Hid (D=none):=Lib.hid (by rw[← HDE.out];exact HRD.out.big HIN.out (by rw[HKL.out,HNC.out];omega) (by rw[HNS.out,HA.out];exact hbg))
      have g2:(nS:Int)≤(a:Int):=by omega
      have g3:decide ((nS:Int)≤(a:Int))=true:=decide_eq_true g2
      refine wp_region_cq (by kernel_rfl) (by kernel_rfl) ?_
      repeat (first
       | go_big_quiet_skip
       | (refine wpQuiet_want (by rfl) (fun K hK=>?_)
          first
           | (refine quiet_move _ (by rfl) (hK _ ?_))
           | (refine quiet_assign _ (by rfl) (hK _ ?_))
           | (apply Exists.intro
              refine⟨fun w' hC=>?_,hK _ ?_⟩
              ·(unfold Oper.quietAt
                obtain⟨x0,x1⟩:=HCX.out w' hC
                clear hC
                go_simp
                try exact⟨rfl,rfl⟩
                try rfl))
          clear hK K
          try simp only[nrm,Act.eval,nrq]))
      refine wpQuiet_nil ?_
      intro w3 hf3
      have HQ3:=Lib.hid (HQ.out.frm hf3)
      clear hf3
      have HZ6:=Lib.hid ((HQ3.out).k.cells HB6.out (by decide));have HZ1:=Lib.hid ((HQ3.out).k.cells HC1.out (by decide))
      have HZF:=Lib.hid (HQ3.out).f
      go_wp2_with (first
       | (refine wpList_load_whole rfl 35 _ rfl _ rfl _ 35 HZ6.out _ Tryz.underlying35 rfl (by kernel_rfl) ?_)
       | (refine wpList_store_row rfl 35 _ _ rfl _ _ _ _ rfl rfl HZ1.out rfl (by kernel_rfl) (one3v ..) ?_;intro w7 hb7 hf7;have HB7:=Lib.hid hb7;have HF7:=Lib.hid hf7;clear hb7 hf7))
      refine bodyPost_ret (results_s2 rfl rfl rfl HB7.out rfl) rfl ⟨_,rfl,HZF.out.then HF7.out (by intro k hk;simp at hk;omega),.inr ⟨HDN.out,_,rfl,rfl,one3v ..⟩⟩
     ·have g2:¬ (nS:Int)≤(a:Int):=by omega
      have g3:decide ((nS:Int)≤(a:Int))=false:=decide_eq_false g2
      have HAS:Hid (a < nS):=Lib.hid (by omega)
      refine wp_region_cq (by kernel_rfl) (by kernel_rfl) ?_
      repeat (first
       | go_big_quiet_skip
       | (refine wpQuiet_want (by rfl) (fun K hK=>?_)
          first
           | (refine quiet_move _ (by rfl) (hK _ ?_))
           | (refine quiet_assign _ (by rfl) (hK _ ?_))
           | (apply Exists.intro
              refine⟨fun w' hC=>?_,hK _ ?_⟩
              ·(unfold Oper.quietAt
                obtain⟨x0,x1⟩:=HCX.out w' hC
                clear hC
                go_simp
                try exact⟨rfl,rfl⟩
                try rfl))
          clear hK K
          try simp only[nrm,Act.eval,nrq]))
      refine wpQuiet_nil ?_
      intro w3 hf3
      have HQ3:=Lib.hid (HQ.out.frm hf3)
      have hpn:p + 1 + 2 * nC≤N:=by omega
      clear hf3 g0 g1 g2 g3 hbg hsh
      have HCB:Hid (∀ V,Frm [ba] w3 V→V.cell? ⟨b6,0,none⟩=some (.slice (some ⟨ba,0,none⟩) n ca)):=Lib.hid fun V hV=>by
       have h6:=HQ3.out.k.cells HB6.out (by decide)
       have hne:=Ty.ne ⟨_,h6⟩ HQ3.out.ro.ta (by decide)
       exact cell_of (hV.at h6 (by simpa using hne)) 0
      have hbal:=HQ3.out.ro.ta.lt
      go_upto_region 10 with fail
      refine heldF_start (F:=[ba]) (by kernel_rfl) ?_
      refine cnt 0 ?_
      iterate 8
       refine hcF ?_ ?_ ?_
       rotate_left
       ·intro w' hC
        have x0:=HCB.out w' (((Frm.refl [] w3).drew.mono (by simp)).trans hC)
        clear hC
        go_simp
        try rfl
       try simp only[nrm,Nat.reduceAdd]
      refine tcn ?_
      obtain⟨wd,hwd⟩:∃ wd,w3.drew=wd:=⟨_,rfl⟩
      have hfd:Frm [] w3 wd:=by rw[← hwd];exact(Frm.refl _ _).drew
      rw[hwd]
      clear hwd
      have hyd:=HQ3.out.frm hfd
      have ga:=hyd.ro.a i HIN.out
      obtain⟨cua,hua⟩:=hyd.ro.ta
      have fa:=free_of hua i
      have HQ4:=Lib.hid (hyd.setAt HY.out.toShp HIN.out a HLW.out.1)
      refine hstF 8 (fun K' hK'=>?_)
      go_simp
      (skip)
      refine hK'.out _ _ ((Frm.refl _ _).setCell _ (.inl (by simp)) _) ?_
      clear hK' K'
      try simp only[nrm]
      refine wpAnyH_done (by kernel_rfl) ?_ _
      obtain⟨w4,hw4⟩:∃ w4,wd.setCell ⟨ba,i,none⟩ (.int .i64 (a:Int))=w4:=⟨_,rfl⟩
      rw[hw4] at HQ4 ⊢
      clear hw4 hyd ga hua fa hfd HCB HQ3 hbal
      obtain⟨y4,hy4⟩:∃ y4:PS,({ y with pos:=y.pos.set i a }:PS)=y4:=⟨_,rfl⟩
      have HYE:=Lib.hid hy4
      have HS4:Hid (Shp s y4):=Lib.hid (by rw[← hy4];exact⟨by simpa using HY.out.pl,HY.out.vl,HY.out.wl,HY.out.wr⟩)
      rw[hy4] at HQ4
      clear hy4 hz hpk hpk' hpk''
      go_upto_region 13 with fail
      go_loopw [11,12] (fun s11 s12 wr=>∃ (k:Nat) (al:Option Addr) (kl:Nat) (M:List Int),Hid (M=kVals K (p + 1) k)∧s11=.slice al k kl∧s12=.int .i64 k∧k≤nC∧wr.ownsRow w4.heap.size 3 1 (.slice al k kl) k (M.map iv)∧Frm [] w4 wr) (fun _ s12 _=>nC - (intOf s12).toNat)
      case atStart=>exact⟨0,none,0,[],Lib.hid rfl,rfl,rfl,Nat.zero_le _,World.ownsRow_nil _ _ _ _,Frm.refl _ _⟩
      case round =>
       obtain⟨k,al,kl,M,HM,rfl,rfl,hk,ho,hf⟩:=hrel
       have HO:=Lib.hid ho;have HF:=Lib.hid hf
       clear ho hf
       obtain⟨wk,hwk⟩:∃ wk,wk=wr:=⟨_,rfl⟩
       subst hwk
       have hml:M.length=k:=by rw[HM.out];exact kVals_len _ _ _
       have HML:=Lib.hid hml
       clear hml
       by_cases hlk:k < nC
       ·have hlk':(k:Int) < (nC:Int):=by omega
        obtain⟨q,hq⟩:∃ q,p + 1 + 2 * k=q:=⟨_,rfl⟩
        have hqN:q + 1 < N:=by omega
        have j5:IntKind.i64.wrap (2 * (k:Int))=2 * (k:Int):=w64 (by omega) (by omega)
        have j6:IntKind.i64.wrap ((p:Int) + 1 + 2 * (k:Int))=(q:Int):=(w64 (by omega) (by omega)).trans (by omega)
        have j7:IntKind.i64.wrap ((p:Int) + 2)=(p:Int) + 2:=w64 (by omega) (by omega)
        obtain⟨q1,hq1⟩:∃ q1,q + 1=q1:=⟨_,rfl⟩
        have j8:IntKind.i64.wrap ((p:Int) + 2 + 2 * (k:Int))=(q1:Int):=(w64 (by omega) (by omega)).trans (by omega)
        have hqk:q < key.size:=by rw[hN];omega
        have hqk1:q1 < key.size:=by rw[hN];omega
        have hz0:=HKB.out q hqk
        have hz1':=HKB.out q1 hqk1
        have hqi:(q:Int) < (N:Int):=by omega
        have hqi1:(q1:Int) < (N:Int):=by omega
        have hqn:q < N:=by omega
        have hqn1:q1 < N:=by omega
        obtain⟨x0,hx0⟩:∃ x0,kAt K q=x0:=⟨_,rfl⟩
        obtain⟨x1,hx1⟩:∃ x1,kAt K q1=x1:=⟨_,rfl⟩
        have hl0:x0 < 256:=by rw[← hx0];exact kAt_lt _ _
        have hl1:x1 < 256:=by rw[← hx1];exact kAt_lt _ _
        have HMS:Hid (kVals K (p + 1) (k + 1)=M ++ [256 * (x0:Int) + (x1:Int)]):=Lib.hid (by rw[kVals_succ,← HM.out,hq,hq1,hx0,hx1])
        rw[hx0] at hz0
        rw[hx1] at hz1'
        have j11:IntKind.i64.wrap (x0:Int)=(x0:Int):=w64 (by omega) (by omega)
        have j12:IntKind.i64.wrap (x1:Int)=(x1:Int):=w64 (by omega) (by omega)
        have j9:IntKind.i64.wrap (256 * (x0:Int))=256 * (x0:Int):=w64 (by omega) (by omega)
        obtain⟨v,hv⟩:∃ v,256 * (x0:Int) + (x1:Int)=v:=⟨_,rfl⟩
        have j10:IntKind.i64.wrap (256 * (x0:Int) + (x1:Int))=v:=(w64 (by omega) (by omega)).trans hv
        rw[hv] at HMS
        obtain⟨i0,hi0,hzz0,hzz1,hzz2⟩:=info_parts Tryz.info3
        obtain⟨F,hF⟩:∃ F,(Value.slice al k kl).ownBlock.toList=F:=⟨_,rfl⟩
        have HFE:=Lib.hid hF
        clear hF hx0 hx1 hv hq hq1 hqN
        go_upto_region 15 with fail
        refine heldF_start (F:=F) (by kernel_rfl) ?_
        refine cnt 0 ?_
        iterate 19
         refine hcF ?_ ?_ ?_
         rotate_left
         ·intro w' hC
          clear hC
          go_simp
          try rfl
         try simp only[nrm,Nat.reduceAdd]
        refine tcn ?_
        obtain⟨wd,hwd⟩:∃ wd,wk.drew=wd:=⟨_,rfl⟩
        have hfd:Frm [] wk wd:=by rw[← hwd];exact(Frm.refl _ _).drew
        rw[hwd]
        have HOd:=Lib.hid (hfd.owns HO.out (by simp))
        have hfd4:Frm [] w4 wd:=HF.out.trans hfd
        clear hwd
        refine hstF 19 (fun K' hK'=>?_)
        go_simp
        (skip)
        refine hK'.out _ _ ((Frm.refl _ _).alloc _) ?_
        clear hK' K'
        try simp only[nrm]
        refine heldF_step (i:=20) rfl (by kernel_rfl) (by rfl) (fun K' hK'=>?_)
        refine wp_own_step _ _ 31 rfl w4.heap.size 3 Tryz.underlying31 hi0 hzz0 hzz1 hzz2 rfl (by decide) (.slice al k kl) k (M.map iv) rfl (HOd.out.alloc _) ⟨wd.heap.size,0,none⟩ 1 1 [iv v] rfl rfl (new_row _ _ _) (by simp[iv,Value.oneCell']) (by unfold maxLen;omega) (by omega) (by have:=hfd4.size;simp;omega) ?_;intro v' w6 hown' hgrow;obtain⟨a6,k6,rfl⟩:=own_shape hown';have hf6:Frm [] w4 w6:=(hfd4.alloc (.cells #[iv v] 3)).grown hgrow (fun q hq=>.inr (ownBlock_ge HOd.out hq))
        refine hK'.out _ _ (by rw[← HFE.out];exact(Frm.refl _ _).grown hgrow (fun q hq=>.inl (by rw[hq];simp))) ?_
        clear hK' K'
        try simp only[nrm]
        refine htF 21 ?_ ?_ ?_
        rotate_left
        ·intro w' hC
         clear hC
         go_simp
         try rfl
        try simp only[nrm]
        refine wpAnyH_done (by kernel_rfl) ?_ _
        go_wp2
        exact⟨⟨k + 1,a6,k6,M ++ [v],Lib.hid HMS.out.symm,rfl,congrArg (Value.int .i64) (by omega),hlk,by rw[List.map_append];exact hown',hf6⟩,by simp[intOf];omega⟩
       ·obtain rfl:k=nC:=by omega
        have hge:¬ (k:Int) < (k:Int):=by omega
        have HQk:=Lib.hid (HQ4.out.frm HF.out)
        obtain⟨dv,vv,c0,c1,hd,hv⟩:=HQk.out.ro.b i HIN.out
        obtain⟨da,dc,rfl⟩:=own_shape hd
        obtain⟨va,vc,rfl⟩:=own_shape hv.1
        have hbk:(y4.bank i).length=k:=by rw[← HYE.out];exact(HY.out.b i HIN.out).trans HNC.out
        obtain⟨fb,hfb⟩:∃ fb,fitsV (s.rol i).ctrs M=fb:=⟨_,rfl⟩
        have CP:=Lib.hid (jPut_any _ _ (.slice al k kl) (s.rol i).ctrs (y4.bank i) M wk (df_arr hd) (int_arr hv.1 rfl) (by rw[hbk,HNC.out]) (int_arr HO.out HML.out) (by rw[HML.out,HNC.out]) (by rw[HM.out];exact kVals_ge _ _ _) (by rw[HNC.out];omega))
        rw[hfb] at CP
        rw[HNC.out] at c0 CP
        rw[hbk] at c1 CP
        have HFB:=Lib.hid hfb;have HDV:Hid (DfV wk (.slice da k dc) (s.rol i).ctrs):=Lib.hid (by have h:=hd;rw[HNC.out] at h;exact h)
        obtain⟨-,-,e2,-⟩:=HSL.out wk HQk.out.k
        have hcl:=cell_lt c0
        clear hd hv hbk hfb
        cases fb with
        | false =>
          have HDN:Hid (D=none):=Lib.hid (by rw[← HDE.out];exact HRD.out.over HIN.out (by rw[HKL.out,HNC.out];have:=hk;omega) (by rw[HA.out,HNS.out];exact HAS.out) (by rw[HNC.out,← HM.out];exact HFB.out))
          have CPF:Hid (Calls Tryz.prog 90 #[.agg #[.slice da k dc,.slice va k vc],.slice al k kl] wk (RetV fun u w'=>Frm [] wk w'∧∃ x1 x2:Value,u=.tuple #[.agg #[x1,x2],.int .i64 3]∧(#[x1,x2]:Array Value).all (·.oneCell')=true)):=Lib.hid (CP.out.mono fun e w' h=>by
           obtain⟨u,rfl,hf,⟨h0,-⟩ | ⟨-,h1⟩⟩:=h
           ·cases h0
           ·exact⟨_,rfl,hf,h1⟩)
          clear CP
          go_upto_region 17 with (first
           | (go_at_call 90;go_must (refine CPF.out.mono ?_;clear CPF;rintro e w5 ⟨u,rfl,hf5,x1,x2,rfl,hal⟩;have HF5:=Lib.hid hf5;have HAL:=Lib.hid hal;clear hf5 hal))
           | (refine wpList_store_row rfl 173 _ _ rfl _ _ _ _ rfl rfl (heap_alloc_new _ _) rfl (by kernel_rfl) HAL.out ?_;intro w6 hb6' hf6;have HF6:=Lib.hid (((Frm.refl [] w5).alloc _).then hf6 (by intro q hq;simp at hq;subst hq;exact .inr (Nat.le_refl _)));clear hb6' hf6))
          have HQ6:=Lib.hid ((HQk.out.frm HF5.out).frm HF6.out)
          clear e2 c0 c1
          have HZ6:=Lib.hid ((HQ6.out).k.cells HB6.out (by decide));have HZ1:=Lib.hid ((HQ6.out).k.cells HC1.out (by decide))
          have HZF:=Lib.hid (HQ6.out).f
          go_wp2_with (first
           | (refine wpList_load_whole rfl 35 _ rfl _ rfl _ 35 HZ6.out _ Tryz.underlying35 rfl (by kernel_rfl) ?_)
           | (refine wpList_store_row rfl 35 _ _ rfl _ _ _ _ rfl rfl HZ1.out rfl (by kernel_rfl) (one3v ..) ?_;intro w7 hb7 hf7;have HB7:=Lib.hid hb7;have HF7:=Lib.hid hf7;clear hb7 hf7))
          refine bodyPost_ret (results_s2 rfl rfl rfl HB7.out rfl) rfl ⟨_,rfl,HZF.out.then HF7.out (by intro k hk;simp at hk;omega),.inr ⟨HDN.out,_,rfl,rfl,one3v ..⟩⟩
        | true =>
          have CPT:Hid (Calls Tryz.prog 90 #[.agg #[.slice da k dc,.slice va k vc],.slice al k kl] wk (RetV fun u w'=>Frm [] wk w'∧∃ av kv,u=.tuple #[.agg #[.slice da k dc,.slice av k kv],.int .i64 0]∧IvR w' (.slice av k kv) M∧∀ q,(Value.slice av k kv).ownBlock=some q→wk.heap.size≤q)):=Lib.hid (CP.out.mono fun e w' h=>by
           obtain⟨u,rfl,hf,⟨-,vv',rfl,h1,h2⟩ | ⟨h0,-⟩⟩:=h
           ·obtain⟨av,kv,rfl⟩:=own_shape h1
            rw[HML.out] at h1 h2 ⊢
            exact⟨_,rfl,hf,av,kv,rfl,h1,h2⟩
           ·cases h0)
          clear CP
          go_upto_region 17 with (first
           | (go_at_call 90;go_must (refine CPT.out.mono ?_;clear CPT;rintro e w5 ⟨u,rfl,hf5,av,kv,rfl,hiv,hown⟩;have HF5:=Lib.hid hf5;have HIV:=Lib.hid hiv;have HOW:=Lib.hid hown;clear hf5 hiv hown))
           | (refine wpList_store_row rfl 173 _ _ rfl _ _ _ _ rfl rfl (heap_alloc_new _ _) rfl (by kernel_rfl) (one2 ..) ?_;intro w6 hb6' hf6;have HB13:=Lib.hid hb6';have HF6:=Lib.hid (((Frm.refl [] w5).alloc _).then hf6 (by intro q hq;simp at hq;subst hq;exact .inr (Nat.le_refl _)));clear hb6' hf6))
          have HQ6:=Lib.hid ((HQk.out.frm HF5.out).frm HF6.out)
          clear e2 c0 c1
          obtain⟨-,-,e2,-⟩:=HSL.out w6 HQ6.out.k
          obtain⟨dv6,vv6,c0,c1,-,-⟩:=HQ6.out.ro.b i HIN.out
          obtain⟨cub,hub⟩:=HQ6.out.ro.tb
          have f0:=free_of hub (i * 2)
          have f1:=free_of hub (i * 2 + 1)
          have y0:=cell_of HB13.out 0
          have y1:=cell_of HB13.out 1
          have hbl6:=cell_lt c0
          have hbk:=HQk.out.ro.ta.lt
          have HQ7:=Lib.hid (HQ6.out.setBank HS4.out HIN.out (HDV.out.frm (HF5.out.trans HF6.out) (by simp)) (show VlV w6 ba (.slice av k kv) M from ⟨HF6.out.owns HIV.out (by simp),fun e=>by have:=HOW.out ba e;omega⟩) HLW.out.2.1)
          have HYN:Hid (Y1 s (i + 1) (ps ++ [a]) (vs ++ [M]) { y4 with vals:=y4.vals.set i M }):=Lib.hid (by
           rw[← HYE.out]
           exact HY.out.step HIN.out HRD.out.len.1 HRD.out.len.2 a (by rw[HML.out,HNC.out]))
          have HRN:Hid (RdR s K (i + 1) (p + 1 + 2 * k) (ps ++ [a]) (vs ++ [M])):=Lib.hid (by
           have h:=HRD.out.step HIN.out (by rw[HKL.out,HNC.out];exact hpn) (by rw[HA.out,HNS.out];exact HAS.out) (by rw[HNC.out,← HM.out];exact HFB.out)
           rw[HNC.out,HA.out,← HM.out] at h
           exact h)
          clear hub hbk
          go_wp2
          exact⟨⟨i + 1,p + 1 + 2 * k,ps ++ [a],vs ++ [M],_,congrArg (Value.int .i64) (by omega),congrArg (Value.int .i64) (by omega),hlt,hpn,HRN,HYN,HQ7.out⟩,by simp[intOf];omega⟩
   ·obtain rfl:i=n:=by omega
    have hge:¬ (i:Int) < (i:Int):=by omega
    go_upto_region 22 with fail
    clear e1 hlt hge
    have HY2:Hid (Y2 s ps vs (wf [] [] [] 0 0) y):=Lib.hid (by
     have h1:=HRD.out.len
     have h2:=HY.out
     rw[← HN.out] at h1 h2
     exact h2.all h1.1 h1.2)
    have HRW:Hid (RdW s K ps vs 0 0 p [] []):=Lib.hid (RdW.start (by have h:=HRD.out;rw[← HN.out] at h;exact h))
    clear HRD HY
    rename_i z0_ z1_ z2_ z3_ z4_ z5_
    revert s key w HOK ao cap HSV N hks hN K HKL HKB HKE W0 HNN D HDE hlw w1 ba bb bw bi ca cb cw W2 b6 HC1 HLW hl6 z0_ u5 u10 u11 u12 u13 u14 u21 u22 u23 u24 u25 u26 u27 u28 u29 u30 u31 u32 u33 u34 u35 u36 u37 u38 u39 u40 u41 u42 u43 u44 u45 u46 u47 u48 u49 u50 u51 u52 u53 u54 u55 u56 u57 u58 u59 u60 u61 u62 u63 u64 u65 u66 u67 u68 u69 u70 u71 u72 u73 u74 u75 u76 u77 u78 u79 u80 u81 u82 u83 u84 u85 u86 u87 u88 u89 u90 u91 u92 u93 u94 u95 u96 u97 u98 u99 u100 u101 u102 u103 u104 u105 u106 u107 u108 u109 u110 u111 u112 u113 u114 i p ps vs y hpN wl HQ h4 HRL HN HB6 HC0 HSL hi z1_ z2_ z3_ z4_ z5_ HY2 HRW
    exact HP0.out
end Go.Proofs.YtkphhjekfimmlaaGreat
namespace Go.Proofs.YtkphhjekfimmlaaGreat
open Go.RowKit Go.BigFrame
theorem kMsg_ext (key:ByteArray) (q:Nat):key.extract (q + 1) (q + 1 + kAt (byt key) q)=kMsg (byt key) q:=by
 apply ByteArray.ext
 apply Array.toList_inj.1
 rw[ext_list]
 unfold kMsg byt
 simp only[List.drop_take]
 congr 1
 omega
theorem putL_ok {cap:Int} {L:List ByteArray} {m:ByteArray} (h:putE cap L m=0):putL cap L m=L ++ [m]:=by
 unfold putL
 rw[if_pos h]
set_option maxHeartbeats 16000000 in
set_option maxRecDepth 100000 in
theorem qDeT:qDeS.1:=by
 skip
 ·intro s key w HOK ao cap HSV N hks hN K HKL HKB HKE W0 HNN D HDE hlw w1 ba bb bw bi ca cb cw W2 b6 HC1 HLW hl6 _ u5 u10 u11 u12 u13 u14 u21 u22 u23 u24 u25 u26 u27 u28 u29 u30 u31 u32 u33 u34 u35 u36 u37 u38 u39 u40 u41 u42 u43 u44 u45 u46 u47 u48 u49 u50 u51 u52 u53 u54 u55 u56 u57 u58 u59 u60 u61 u62 u63 u64 u65 u66 u67 u68 u69 u70 u71 u72 u73 u74 u75 u76 u77 u78 u79 u80 u81 u82 u83 u84 u85 u86 u87 u88 u89 u90 u91 u92 u93 u94 u95 u96 u97 u98 u99 u100 u101 u102 u103 u104 u105 u106 u107 u108 u109 u110 u111 u112 u113 u114 n p ps vs y hpN wl HQ h4 HRL HN HB6 HC0 HSL hi _ _ _ _ _ HY2 HRW
  clear HC0 HRL HSV
  go_loopw [7,15] (fun s7 s15 wr=>∃ (i q:Nat) (Ws:List (List (List ByteArray))) (y:PS),s7=.int .i64 q∧s15=.int .i64 i∧i≤n∧q≤N∧Hid (RdW s K ps vs i 0 q Ws [])∧Hid (Y2 s ps vs (wf Ws [] [] i 0) y)∧DQ w W2 s ba bb bw bi y wr) (fun _ s15 _=>n - (intOf s15).toNat)
  case atStart=>exact⟨0,p,[],y,rfl,rfl,Nat.zero_le _,hpN,HRW,HY2,HQ.out⟩
  case round =>
   clear HQ HY2 HRW
   obtain⟨i,q0,Ws,y0,rfl,rfl,hi,hq0,HRW,HY0,hq⟩:=hrel
   have HQ:=Lib.hid hq
   clear hq
   obtain⟨wl,hwl⟩:∃ wl,wl=wr:=⟨_,rfl⟩
   subst hwl
   obtain⟨e1,-,-,-⟩:=HSL.out wl HQ.out.k
   by_cases hlt:i < n
   ·have hlt':(i:Int) < (n:Int):=by omega
    have HIN:Hid (i < s.roles.length):=Lib.hid (by rw[HN.out];exact hlt)
    go_upto_region 25 with fail
    clear e1
    go_loopw [7,16] (fun s7 s16 wr=>∃ (k q:Nat) (R:List (List ByteArray)) (y:PS),s7=.int .i64 q∧s16=.int .i64 k∧k≤n∧q≤N∧Hid (RdW s K ps vs i k q Ws R)∧Hid (Y2 s ps vs (wf Ws R [] i k) y)∧DQ w W2 s ba bb bw bi y wr) (fun _ s16 _=>n - (intOf s16).toNat)
    case atStart=>exact⟨0,q0,[],y0,rfl,rfl,Nat.zero_le _,hq0,HRW,HY0,HQ.out⟩
    case round =>
     clear HQ HRW HY0
     obtain⟨k,q,R,y1,rfl,rfl,hk,hqN,HRW,HY1,hq⟩:=hrel
     have HQ:=Lib.hid hq
     clear hq
     obtain⟨wm,hwm⟩:∃ wm,wm=wr:=⟨_,rfl⟩
     subst hwm
     obtain⟨e1,-,-,-⟩:=HSL.out wm HQ.out.k
     by_cases hlk:k < n
     ·have hlk':(k:Int) < (n:Int):=by omega
      have HKN:Hid (k < s.roles.length):=Lib.hid (by rw[HN.out];exact hlk)
      by_cases hik:i=k
      ·have hb1:((i:Int) == (k:Int))=true:=by rw[hik];simp
       subst hik
       have HRN:Hid (RdW s K ps vs i (i + 1) q Ws (R ++ [[]])):=Lib.hid HRW.out.same
       have HYN:Hid (Y2 s ps vs (wf Ws (R ++ [[]]) [] i (i + 1)) y1):=Lib.hid (HY1.out.next HRW.out.lens.2.1)
       go_wp2
       exact⟨⟨i + 1,q,R ++ [[]],y1,rfl,congrArg (Value.int .i64) (by omega),hlk,hqN,HRN,HYN,HQ.out⟩,by simp[intOf];omega⟩
      ·have hb3:¬ (i:Int)=(k:Int):=by omega
       have hb1:((i:Int) == (k:Int))=false:=by rw[beq_eq_false_iff_ne];exact hb3
       have HNE:=Lib.hid hik
       by_cases hqe:N≤q
       ·have HDN:Hid (D=none):=Lib.hid (by rw[← HDE.out];exact HRW.out.end HIN.out HKN.out HNE.out (by rw[HKL.out];exact hqe))
        have g0:(N:Int)≤(q:Int):=by omega
        have g1:decide ((N:Int)≤(q:Int))=true:=decide_eq_true g0
        have HZ6:=Lib.hid ((HQ.out).k.cells HB6.out (by decide));have HZ1:=Lib.hid ((HQ.out).k.cells HC1.out (by decide))
        have HZF:=Lib.hid (HQ.out).f
        go_wp2_with (first
         | (refine wpList_load_whole rfl 35 _ rfl _ rfl _ 35 HZ6.out _ Tryz.underlying35 rfl (by kernel_rfl) ?_)
         | (refine wpList_store_row rfl 35 _ _ rfl _ _ _ _ rfl rfl HZ1.out rfl (by kernel_rfl) (one3v ..) ?_;intro w7 hb7 hf7;have HB7:=Lib.hid hb7;have HF7:=Lib.hid hf7;clear hb7 hf7))
        refine bodyPost_ret (results_s2 rfl rfl rfl HB7.out rfl) rfl ⟨_,rfl,HZF.out.then HF7.out (by intro k hk;simp at hk;omega),.inr ⟨HDN.out,_,rfl,rfl,one3v ..⟩⟩
       ·have g0:¬ (N:Int)≤(q:Int):=by omega
        have g1:decide ((N:Int)≤(q:Int))=false:=decide_eq_false g0
        have hpk:q < key.size:=by rw[hN];omega
        have hpk':q < N:=by omega
        have hpk'':(q:Int) < (N:Int):=by omega
        have hz:=HKB.out q hpk
        have HQL:Hid (q < K.length):=Lib.hid (by rw[HKL.out];exact hpk')
        obtain⟨c,hc⟩:∃ c,kAt K q=c:=⟨_,rfl⟩
        have HC:=Lib.hid hc
        have hc256:c < 256:=by rw[← hc];exact kAt_lt K q
        rw[hc] at hz
        have j0:IntKind.i64.wrap (c:Int)=(c:Int):=w64 (by omega) (by omega)
        clear hc
        go_upto_region 32 with fail
        clear g0 g1 hpk hpk'' hz j0 e1 hb1 hb3
        go_loopw [7,8] (fun s7 s8 wr=>∃ (m t r:Nat) (L:List ByteArray) (y:PS),s7=.int .i64 r∧s8=.int .i64 t∧m + t=c∧r≤N∧Hid (RdM s K q m r L)∧Hid (Y2 s ps vs (wf Ws R L i k) y)∧DQ w W2 s ba bb bw bi y wr) (fun _ s8 _=>(intOf s8).toNat)
        case atStart=>exact⟨0,c,q + 1,[],y1,congrArg (Value.int .i64) (by omega),rfl,by omega,hpk',Lib.hid (RdM.start _ _ _),HY1,HQ.out⟩
        case round =>
         clear HQ HY1
         obtain⟨m,t,r,L,y2,rfl,rfl,hmt,hrN,HRM,HY3,hq⟩:=hrel
         have HQ3:=Lib.hid hq
         clear hq
         obtain⟨w3,hw3⟩:∃ w3,w3=wr:=⟨_,rfl⟩
         subst hw3
         by_cases ht0:0 < t
         ·have ht0':(0:Int) < (t:Int):=by omega
          have HMC:Hid (m < kAt K q):=Lib.hid (by rw[HC.out];omega)
          by_cases hre:N≤r
          ·have HDN:Hid (D=none):=Lib.hid (by rw[← HDE.out];exact HRM.out.end HRW.out HIN.out HKN.out HNE.out HQL.out HMC.out (.inl (by rw[HKL.out];exact hre)))
           have g0:(N:Int)≤(r:Int):=by omega
           have g1:decide ((N:Int)≤(r:Int))=true:=decide_eq_true g0
           have HZ6:=Lib.hid ((HQ3.out).k.cells HB6.out (by decide));have HZ1:=Lib.hid ((HQ3.out).k.cells HC1.out (by decide))
           have HZF:=Lib.hid (HQ3.out).f
           go_wp2_with (first
            | (refine wpList_load_whole rfl 35 _ rfl _ rfl _ 35 HZ6.out _ Tryz.underlying35 rfl (by kernel_rfl) ?_)
            | (refine wpList_store_row rfl 35 _ _ rfl _ _ _ _ rfl rfl HZ1.out rfl (by kernel_rfl) (one3v ..) ?_;intro w7 hb7 hf7;have HB7:=Lib.hid hb7;have HF7:=Lib.hid hf7;clear hb7 hf7))
           refine bodyPost_ret (results_s2 rfl rfl rfl HB7.out rfl) rfl ⟨_,rfl,HZF.out.then HF7.out (by intro k hk;simp at hk;omega),.inr ⟨HDN.out,_,rfl,rfl,one3v ..⟩⟩
          ·have g0:¬ (N:Int)≤(r:Int):=by omega
           have g1:decide ((N:Int)≤(r:Int))=false:=decide_eq_false g0
           have hrk:r < key.size:=by rw[hN];omega
           have hrk':r < N:=by omega
           have hrk'':(r:Int) < (N:Int):=by omega
           have hz:=HKB.out r hrk
           obtain⟨b,hb⟩:∃ b,kAt K r=b:=⟨_,rfl⟩
           have HB:=Lib.hid hb
           have hb256:b < 256:=by rw[← hb];exact kAt_lt K r
           rw[hb] at hz
           have j0:IntKind.i64.wrap (b:Int)=(b:Int):=w64 (by omega) (by omega)
           clear hb
           by_cases hrl:N < r + 1 + b
           ·have HDN:Hid (D=none):=Lib.hid (by rw[← HDE.out];exact HRM.out.end HRW.out HIN.out HKN.out HNE.out HQL.out HMC.out (.inr (by rw[HKL.out,HB.out];exact hrl)))
            have g2:(N:Int) < (r:Int) + 1 + (b:Int):=by omega
            have g3:decide ((N:Int) < (r:Int) + 1 + (b:Int))=true:=decide_eq_true g2
            have HZ6:=Lib.hid ((HQ3.out).k.cells HB6.out (by decide));have HZ1:=Lib.hid ((HQ3.out).k.cells HC1.out (by decide))
            have HZF:=Lib.hid (HQ3.out).f
            go_wp2_with (first
             | (refine wpList_load_whole rfl 35 _ rfl _ rfl _ 35 HZ6.out _ Tryz.underlying35 rfl (by kernel_rfl) ?_)
             | (refine wpList_store_row rfl 35 _ _ rfl _ _ _ _ rfl rfl HZ1.out rfl (by kernel_rfl) (one3v ..) ?_;intro w7 hb7 hf7;have HB7:=Lib.hid hb7;have HF7:=Lib.hid hf7;clear hb7 hf7))
            refine bodyPost_ret (results_s2 rfl rfl rfl HB7.out rfl) rfl ⟨_,rfl,HZF.out.then HF7.out (by intro k hk;simp at hk;omega),.inr ⟨HDN.out,_,rfl,rfl,one3v ..⟩⟩
           ·have g2:¬ (N:Int) < (r:Int) + 1 + (b:Int):=by omega
            have g3:decide ((N:Int) < (r:Int) + 1 + (b:Int))=false:=decide_eq_false g2
            have hrb:r + 1 + b≤N:=by omega
            obtain⟨lv,r0,r1,r2,r3⟩:=HQ3.out.ro.r i k HIN.out HKN.out
            rw[HY3.out.here HIN.out HKN.out] at r3
            have hlen:L.length≤64:=by have:=HRM.out.cap (by have:=HOK.out.k1;omega);have:=HOK.out.k4;omega
            have CL0:=Lib.hid (fun V (hV:Frm [] w3 V)=>refPut_any s.cls s.cap lv L (kMsg K r) V (r3.frm hV (by simp)) hlen)
            obtain⟨lva,lvc,rfl,-⟩:=r3.shape
            obtain⟨LE,hLE⟩:∃ M,putE s.cap L (kMsg K r)=M:=⟨_,rfl⟩
            obtain⟨LL,hLL⟩:∃ M,putL s.cap L (kMsg K r)=M:=⟨_,rfl⟩
            obtain⟨ln,hln⟩:∃ M,LL.length=M:=⟨_,rfl⟩
            obtain⟨l0,hl0⟩:∃ M,L.length=M:=⟨_,rfl⟩
            have hext:key.extract (r + 1) (r + 1 + b)=kMsg K r:=by rw[← HB.out,← HKE.out];exact kMsg_ext key r
            obtain⟨MS,hMS⟩:∃ M,kMsg K r=M:=⟨_,rfl⟩
            rw[hLE,hLL,hMS] at CL0
            rw[hMS] at hext hLE hLL
            rw[hl0] at CL0 r2
            have HLN:=Lib.hid hln;have HLE:=Lib.hid hLE;have HLL:=Lib.hid hLL;have HMS:=Lib.hid hMS
            obtain⟨cy0,hcy⟩:=HQ3.out.ro.w i HIN.out
            rw[HN.out] at hcy
            have HCX:Hid (∀ V,Frm [] w3 V→(V.cell? ⟨b6,2,none⟩=some (.slice (some ⟨bw,0,none⟩) n cw)∧V.cell? ⟨bw,i,none⟩=some (.slice (some ⟨bi i,0,none⟩) n cy0))∧V.cell? ⟨bi i,k * 3,none⟩=some (.int .i64 s.cls)∧V.cell? ⟨bi i,k * 3 + 1,none⟩=some (.int .i64 s.cap)∧V.cell? ⟨bi i,k * 3 + 2,none⟩=some (.slice lva l0 lvc)):=Lib.hid fun V hV=>by
             obtain⟨-,-,-,q2⟩:=HSL.out V (HQ3.out.frm hV).k
             exact⟨⟨q2,hV.keep hcy⟩,hV.keep r0,hV.keep r1,hV.keep r2⟩
            have CL:=Lib.hid (fun V (hV:Frm [] w3 V)=>CL0.out V hV)
            have j1:IntKind.i64.wrap ((r:Int) + 1)=(r:Int) + 1:=w64 (by omega) (by omega)
            have j2:IntKind.i64.wrap ((r:Int) + 1 + (b:Int))=(r:Int) + 1 + (b:Int):=w64 (by omega) (by omega)
            have j4:((r:Int) + 1 + (b:Int)).toNat=r + 1 + b:=by omega
            have j5:0≤(r:Int) + 1 + (b:Int):=by omega
            have j6:(r:Int) + 1 + (b:Int)≤(N:Int):=by omega
            have j7:0≤(r:Int) + 1:=by omega
            have j8:(r:Int) + 1≤(r:Int) + 1 + (b:Int):=by omega
            clear r0 r1 r2 r3 hlen hLE hLL hln hl0 hMS hcy CL0
            go_upto_region 36 with fail
            clear g0 g1 g2 g3
            try simp only[Act.put]
            go_cut [17,18] (fun s17 s18 wc=>∃ (bq:Nat) (la:Option Addr) (lc:Nat),s17=.pointer (some ⟨bq,0,none⟩)∧s18=.int .i64 LE∧wc.heap[bq]?=some (.cells #[.int .i64 s.cls,.int .i64 s.cap,.slice la ln lc] 168 (0,0))∧Lf wc (.slice la ln lc) LL∧Frm [] w3 wc∧w3.heap.size≤bq)
            case first =>
             refine heldL_start [] (wrSet [24,25]) (by kernel_rfl) ?_
             refine cnt 0 ?_
             iterate 19
              refine hcL ?_ ?_ ?_
              rotate_left
              ·intro w' hC
               obtain⟨⟨x0,x1⟩,x2,x3,x4⟩:=HCX.out w' ((Frm.refl [] w3).drew.trans hC)
               clear hC
               go_simp
               try rfl
              try simp only[nrm,Nat.reduceAdd]
             refine tcn ?_
             obtain⟨wd,hwd⟩:∃ wd,w3.drew=wd:=⟨_,rfl⟩
             have hfd:Frm [] w3 wd:=by rw[← hwd];exact(Frm.refl _ _).drew
             rw[hwd]
             clear hwd
             refine heldL_all (rs:=[19,23]) (by kernel_rfl) (by simp) (allL_cons ?_ (allL_cons ?_ allL_nil))
             ·skip
              refine heldL_step (i:=19) rfl rfl (by rfl) (fun K' hK'=>?_)
              go_simp
              (refine(CL.out _ hfd).mono ?_;rintro e w5 ⟨u,rfl,lv',rfl,hl',hf5,hown⟩;obtain⟨la,lc,rfl,-⟩:=hl'.shape;rw[HLN.out] at hl' ⊢)
              refine hK'.out _ _ (hf5) ?_
              clear hK' K'
              try simp only[nrm]
              refine cnt 20 ?_
              iterate 3
               refine hcP ?_ ?_ ?_
               rotate_left
               ·intro w'
                go_simp
                try rfl
               try simp only[nrm,Nat.reduceAdd]
              refine tcn ?_
              refine honL 23 ?_
              refine heldL_step (i:=23) rfl rfl (by rfl) (fun K' hK'=>?_)
              go_simp
              (skip)
              refine hK'.out _ _ ((Frm.refl _ _).alloc _) ?_
              clear hK' K'
              try simp only[nrm]
              obtain⟨bq,hbq⟩:∃ b,w5.heap.size=b:=⟨_,rfl⟩
              have hz:=heap_alloc_new w5 (.cells #[.int .i64 0,.int .i64 0,.slice none 0 0] 168)
              have hf6:Frm [] w3 (w5.alloc (.cells #[.int .i64 0,.int .i64 0,.slice none 0 0] 168)):=(hfd.trans hf5).alloc _
              have hl6:=hl'.frm ((Frm.refl [] w5).alloc (.cells #[.int .i64 0,.int .i64 0,.slice none 0 0] 168)) (by simp)
              obtain⟨w6,hw6⟩:∃ X,w5.alloc (.cells #[.int .i64 0,.int .i64 0,.slice none 0 0] 168)=X:=⟨_,rfl⟩
              rw[hw6,hbq] at hz ⊢
              rw[hw6] at hf6 hl6
              have hbl:w3.heap.size≤bq:=hbq ▸ (hfd.trans hf5).size
              clear hw6 hbq
              have y0:=cell_of hz 0
              have y1:=cell_of hz 1
              have y2:=cell_of hz 2
              have f0:=free_of hz 0
              have f1:=free_of hz 1
              have f2:=free_of hz 2
              have HP3:=Lib.hid (put3 (u:=.int .i64 s.cls) (v:=.int .i64 s.cap) (z:=.slice la ln lc) hz rfl)
              have HL6:=Lib.hid hl6
              have HF6:=Lib.hid hf6
              have HBL:=Lib.hid hbl
              clear hz hl6 hf6 hl' hf5 hfd hbl
              refine honL 24 ?_
              refine heldL_write (i:=24) rfl (by rfl) (by rfl) (fun K' hK'=>?_)
              go_simp
              (skip)
              refine hK'.out _ _ ?_
              clear hK' K'
              try simp only[nrm]
              refine honL 25 ?_
              refine heldL_write (i:=25) rfl (by rfl) (by rfl) (fun K' hK'=>?_)
              go_simp
              (skip)
              refine hK'.out _ _ ?_
              clear hK' K'
              try simp only[nrm]
              refine heldL_done (by kernel_rfl) ?_ _
              go_wp2
              go_meet
              exact⟨bq,la,lc,rfl,rfl,HP3.out.1,HL6.out.kt HP3.out.2.2,HF6.out.then HP3.out.2.1 (by intro q hq;simp at hq;subst hq;exact .inr HBL.out),HBL.out⟩
             ·skip
              refine heldL_step (i:=23) rfl rfl (by rfl) (fun K' hK'=>?_)
              go_simp
              (skip)
              refine hK'.out _ _ ((Frm.refl _ _).alloc _) ?_
              clear hK' K'
              try simp only[nrm]
              obtain⟨bq,hbq⟩:∃ b,wd.heap.size=b:=⟨_,rfl⟩
              have hz0:=heap_alloc_new wd (.cells #[.int .i64 0,.int .i64 0,.slice none 0 0] 168)
              obtain⟨w4,hw4⟩:∃ X,wd.alloc (.cells #[.int .i64 0,.int .i64 0,.slice none 0 0] 168)=X:=⟨_,rfl⟩
              have hf4:Frm [] w3 w4:=by rw[← hw4];exact hfd.alloc _
              rw[hw4,hbq] at hz0 ⊢
              have hbl:w3.heap.size≤bq:=hbq ▸ hfd.size
              clear hw4 hbq
              refine honL 19 ?_
              refine heldL_step (i:=19) rfl rfl (by rfl) (fun K' hK'=>?_)
              go_simp
              (refine(CL.out _ hf4).mono ?_;rintro e w6 ⟨u,rfl,lv',rfl,hl',hf5,hown⟩;obtain⟨la,lc,rfl,-⟩:=hl'.shape;rw[HLN.out] at hl' ⊢)
              refine hK'.out _ _ (hf5) ?_
              clear hK' K'
              try simp only[nrm]
              refine cnt 20 ?_
              iterate 3
               refine hcP ?_ ?_ ?_
               rotate_left
               ·intro w'
                go_simp
                try rfl
               try simp only[nrm,Nat.reduceAdd]
              refine tcn ?_
              have hz:=hf5.at hz0 (by simp)
              have hf6:=hf4.trans hf5
              have hl6:=hl'
              have y0:=cell_of hz 0
              have y1:=cell_of hz 1
              have y2:=cell_of hz 2
              have f0:=free_of hz 0
              have f1:=free_of hz 1
              have f2:=free_of hz 2
              have HP3:=Lib.hid (put3 (u:=.int .i64 s.cls) (v:=.int .i64 s.cap) (z:=.slice la ln lc) hz rfl)
              have HL6:=Lib.hid hl6
              have HF6:=Lib.hid hf6
              have HBL:=Lib.hid hbl
              clear hz hl6 hf6 hl' hf5 hfd hbl
              refine honL 24 ?_
              refine heldL_write (i:=24) rfl (by rfl) (by rfl) (fun K' hK'=>?_)
              go_simp
              (skip)
              refine hK'.out _ _ ?_
              clear hK' K'
              try simp only[nrm]
              refine honL 25 ?_
              refine heldL_write (i:=25) rfl (by rfl) (by rfl) (fun K' hK'=>?_)
              go_simp
              (skip)
              refine hK'.out _ _ ?_
              clear hK' K'
              try simp only[nrm]
              refine heldL_done (by kernel_rfl) ?_ _
              go_wp2
              go_meet
              exact⟨bq,la,lc,rfl,rfl,HP3.out.1,HL6.out.kt HP3.out.2.2,HF6.out.then HP3.out.2.1 (by intro q hq;simp at hq;subst hq;exact .inr HBL.out),HBL.out⟩
            case rest =>
             obtain⟨bq,la,lc,rfl,rfl,hbq,hlq,hfq,hlb⟩:=hcut
             obtain⟨wc2,hwc2⟩:∃ q,q=wc:=⟨_,rfl⟩
             subst hwc2
             have HBQ:=Lib.hid hbq;have HLQ:=Lib.hid hlq;have HFQ:=Lib.hid hfq
             clear hbq hlq hfq CL HCX hext j2 j4 j5 j6 j7 j8
             by_cases hle:LE=0
             ·subst hle
              have HRN:Hid (RdM s K q (m + 1) (r + 1 + b) (L ++ [MS])):=Lib.hid (by
               have h:=HRM.out.step (by rw[HKL.out,HB.out];exact hrb) (by rw[HMS.out];exact HLE.out)
               rw[HB.out,HMS.out] at h
               exact h)
              have hll:LL=L ++ [MS]:=by rw[← HLL.out];exact putL_ok HLE.out
              have HYN:Hid (Y2 s ps vs (wf Ws R (L ++ [MS]) i k) { y2 with ways:=setWay y2.ways i k LL }):=Lib.hid (by rw[hll];exact HY3.out.set HIN.out HKN.out _)
              clear hll
              have hq3:=HQ3.out.frm HFQ.out
              obtain⟨cy,hcy⟩:=hq3.ro.w i HIN.out
              rw[HN.out] at hcy
              have hyl:=(hq3.ro.ti i HIN.out).lt
              have h6:=hq3.k.cells HB6.out (by decide)
              have n1:b6≠bi i:=Ty.ne ⟨_,h6⟩ (hq3.ro.ti i HIN.out) (by decide)
              have n2:=hq3.ro.tw.ne (hq3.ro.ti i HIN.out) (by decide)
              have n3:bq≠bi i:=by have:=(HQ3.out.ro.ti i HIN.out).lt;omega
              have HCY:Hid (∀ V,Frm [bi i] wc2 V→(V.cell? ⟨b6,2,none⟩=some (.slice (some ⟨bw,0,none⟩) n cw)∧V.cell? ⟨bw,i,none⟩=some (.slice (some ⟨bi i,0,none⟩) n cy))∧V.cell? ⟨bq,0,none⟩=some (.int .i64 s.cls)∧V.cell? ⟨bq,1,none⟩=some (.int .i64 s.cap)∧V.cell? ⟨bq,2,none⟩=some (.slice la ln lc)):=Lib.hid fun V hV=>by
               have g1:=hV.at h6 (by simpa using n1)
               have g3:=hV.cellAt hcy (by simpa using n2)
               have g4:=hV.at HBQ.out (by simpa using n3)
               exact⟨⟨cell_of g1 2,g3⟩,cell_of g4 0,cell_of g4 1,cell_of g4 2⟩
              have HQW:=Lib.hid hq3
              clear hcy h6 n1 n2 n3 hq3
              go_upto_region 39 with fail
              refine heldF_start (F:=[bi i]) (by kernel_rfl) ?_
              obtain⟨wd2,hwd⟩:∃ wd,wc2.drew=wd:=⟨_,rfl⟩
              have hfd:Frm [] wc2 wd2:=by rw[← hwd];exact(Frm.refl _ _).drew
              rw[hwd]
              clear hwd
              refine cnt 0 ?_
              iterate 7
               refine hcF ?_ ?_ ?_
               rotate_left
               ·intro w' hC
                obtain⟨⟨x0,x3⟩,x4,x5,x6⟩:=HCY.out w' ((hfd.mono (by simp)).trans hC)
                clear hC
                go_simp
                try rfl
               try simp only[nrm,Nat.reduceAdd]
              refine tcn ?_
              refine htF 7 ?_ ?_ ?_
              rotate_left
              ·intro w' hC
               clear hC
               go_simp
               try rfl
              try simp only[nrm]
              have hyd:=HQW.out.frm hfd
              obtain⟨lv9,s0,s1,s2,-⟩:=hyd.ro.r i k HIN.out HKN.out
              obtain⟨cu9,hu9⟩:=hyd.ro.ti i HIN.out
              have f0:=free_of hu9 (k * 3)
              have f1:=free_of hu9 (k * 3 + 1)
              have f2:=free_of hu9 (k * 3 + 2)
              have HQ9:=Lib.hid (hyd.setWay HY3.out.toShp HIN.out HKN.out (HLQ.out.frm hfd (by simp)) (HLW.out.2.2.2 i HIN.out))
              clear hyd hu9
              refine hstF 8 (fun K' hK'=>?_)
              go_simp
              (skip)
              refine hK'.out _ _ ((((Frm.refl [bi i] _).setCell _ (.inl (by simp)) _).setCell _ (.inl (by simp)) _).setCell _ (.inl (by simp)) _) ?_
              clear hK' K'
              try simp only[nrm]
              refine wpAnyH_done (by kernel_rfl) ?_ _
              obtain⟨w9,hw9⟩:∃ X,((wd2.setCell ⟨bi i,k * 3,none⟩ (.int .i64 s.cls)).setCell ⟨bi i,k * 3 + 1,none⟩ (.int .i64 s.cap)).setCell ⟨bi i,k * 3 + 2,none⟩ (.slice la ln lc)=X:=⟨_,rfl⟩
              rw[hw9] at HQ9 ⊢
              clear hw9 HCY hfd
              have j3:IntKind.i64.wrap (1 + (b:Int))=1 + (b:Int):=w64 (by omega) (by omega)
              obtain⟨t',rfl⟩:∃ t',t=t' + 1:=⟨t - 1,by omega⟩
              go_wp2
              exact⟨⟨m + 1,t',r + 1 + b,L ++ [MS],_,congrArg (Value.int .i64) (by omega),congrArg (Value.int .i64) (by omega),by omega,hrb,HRN,HYN,HQ9.out⟩,by simp[intOf]⟩
             ·have HDN:Hid (D=none):=Lib.hid (by rw[← HDE.out];exact HRM.out.no HRW.out HIN.out HKN.out HNE.out HQL.out HMC.out (by rw[HKL.out,HB.out];exact hrb) (by rw[HMS.out,HLE.out];exact hle))
              have q2:(LE == 0)=false:=by rw[beq_eq_false_iff_ne];exact hle
              have q3:(LE != 0)=true:=by rw[bne_iff_ne];exact hle
              have HQc:=Lib.hid (HQ3.out.frm HFQ.out)
              have HZ6:=Lib.hid ((HQc.out).k.cells HB6.out (by decide));have HZ1:=Lib.hid ((HQc.out).k.cells HC1.out (by decide))
              have HZF:=Lib.hid (HQc.out).f
              go_wp2_with (first
               | (refine wpList_load_whole rfl 35 _ rfl _ rfl _ 35 HZ6.out _ Tryz.underlying35 rfl (by kernel_rfl) ?_)
               | (refine wpList_store_row rfl 35 _ _ rfl _ _ _ _ rfl rfl HZ1.out rfl (by kernel_rfl) (one3v ..) ?_;intro w7 hb7 hf7;have HB7:=Lib.hid hb7;have HF7:=Lib.hid hf7;clear hb7 hf7))
              refine bodyPost_ret (results_s2 rfl rfl rfl HB7.out rfl) rfl ⟨_,rfl,HZF.out.then HF7.out (by intro k hk;simp at hk;omega),.inr ⟨HDN.out,_,rfl,rfl,one3v ..⟩⟩
         ·obtain rfl:t=0:=by omega
          have ht0':¬ (0:Int) < ((0:Nat):Int):=by omega
          have HRN:Hid (RdW s K ps vs i (k + 1) r Ws (R ++ [L])):=Lib.hid (RdM.done HRW.out HNE.out HQL.out (by rw[HC.out,← hmt];exact HRM.out))
          have HYN:Hid (Y2 s ps vs (wf Ws (R ++ [L]) [] i (k + 1)) y2):=Lib.hid (HY3.out.next HRW.out.lens.2.1)
          go_wp2
          exact⟨⟨k + 1,r,R ++ [L],y2,rfl,congrArg (Value.int .i64) (by omega),hlk,hrN,HRN,HYN,HQ3.out⟩,by simp[intOf];omega⟩
     ·obtain rfl:k=n:=by omega
      have hge:¬ (k:Int) < (k:Int):=by omega
      have HRN:Hid (RdW s K ps vs (i + 1) 0 q (Ws ++ [R]) []):=Lib.hid (RdW.row (by have h:=HRW.out;rw[← HN.out] at h;exact h))
      have HYN:Hid (Y2 s ps vs (wf (Ws ++ [R]) [] [] (i + 1) 0) y1):=Lib.hid (Y2.row (by have h:=HY1.out;rw[← HN.out] at h;exact h) HRW.out.lens.1)
      go_wp2
      exact⟨⟨i + 1,q,Ws ++ [R],y1,rfl,congrArg (Value.int .i64) (by omega),hlt,hqN,HRN,HYN,HQ.out⟩,by simp[intOf];omega⟩
   ·obtain rfl:i=n:=by omega
    have hge:¬ (i:Int) < (i:Int):=by omega
    go_upto_region 41 with fail
    clear e1 hge
    have HRN:Hid (RdW s K ps vs s.roles.length 0 q0 Ws []):=Lib.hid (by rw[HN.out];exact HRW.out)
    have hps:PSok s ⟨ps,vs,Ws⟩:=parse_ok HOK.out HRN.out.all
    have hyy:y0=⟨ps,vs,Ws⟩:=Y2.all (s:=s) (k:=0) (by rw[HN.out];exact HY0.out) HRN.out.lens.1 hps.wr
    subst hyy
    obtain⟨z,hz⟩:∃ z:PS,(⟨ps,vs,Ws⟩:PS)=z:=⟨_,rfl⟩
    have hdec:=HRN.out.dec
    rw[hz] at hdec hps HQ
    rw[HDE.out] at hdec
    have HPS:=Lib.hid hps;have HDC:=Lib.hid hdec
    have HRS:Hid (∀ V,Frm [] wl V→RSt w.heap.size V s (.agg #[.slice (some ⟨ba,0,none⟩) i ca,.slice (some ⟨bb,0,none⟩) i cb,.slice (some ⟨bw,0,none⟩) i cw]) z):=Lib.hid fun V hV=>⟨⟨ba,bb,bw,bi,ca,cb,cw,by rw[HN.out],(HQ.out.frm hV).ro,HLW.out⟩,HPS.out⟩
    have CK:=Lib.hid (fun V (hV:Frm [] wl V)=>qKey_any s _ z w.heap.size V (HRS.out V hV) HOK.out)
    obtain⟨kb,hkb⟩:∃ kb:ByteArray,(⟨(keyP s z).toArray⟩:ByteArray)=kb:=⟨_,rfl⟩
    have hke:keyP s z=K↔kb=key:=by
     rw[← hkb,← HKE.out]
     constructor
     ·intro h;rw[h];rfl
     ·intro h;rw[← h];rfl
    rw[hkb] at CK
    have HKQ:=Lib.hid hke
    have HB6W:Hid (∀ V,Frm [] wl V→V.heap[b6]?=some (.cells #[.slice (some ⟨ba,0,none⟩) i ca,.slice (some ⟨bb,0,none⟩) i cb,.slice (some ⟨bw,0,none⟩) i cw] 35 (0,0))∧V.heap[w.heap.size + 1]?=some (.cells #[.slice none 0 0,.slice none 0 0,.slice none 0 0] 35 (0,0))):=Lib.hid fun V hV=>⟨(HQ.out.frm hV).k.cells HB6.out (by decide),(HQ.out.frm hV).k.cells HC1.out (by decide)⟩
    clear HY0 HRN hps hdec hz hkb hke HRW
    by_cases hkk:kb=key
    ·have hb1:(kb.toList == key.toList)=true:=by rw[hkk];simp
     have HKK:=Lib.hid hkk
     clear hkk
     refine heldF_start (F:=[w.heap.size + 1]) (by kernel_rfl) ?_
     obtain⟨wd,hwd⟩:∃ wd,wl.drew=wd:=⟨_,rfl⟩
     have hfd:Frm [] wl wd:=by rw[← hwd];exact(Frm.refl _ _).drew
     rw[hwd]
     clear hwd
     refine cnt 0 ?_
     iterate 2
      refine hcF ?_ ?_ ?_
      rotate_left
      ·intro w' hC
       have hz:=hC.at (HB6W.out _ hfd).1 (by simp;omega)
       have z0:=cell_of hz 0
       have z1:=cell_of hz 1
       have z2:=cell_of hz 2
       clear hz
       clear hC
       go_simp
       try rfl
      try simp only[nrm,Nat.reduceAdd]
     refine tcn ?_
     refine htF 3 ?_ ?_ ?_
     rotate_left
     ·intro w' hC
      have hz:=hC.at (HB6W.out _ hfd).1 (by simp;omega)
      have z0:=cell_of hz 0
      have z1:=cell_of hz 1
      have z2:=cell_of hz 2
      clear hz
      clear hC
      go_simp
      try rfl
     try simp only[nrm]
     refine hstF 2 (fun K' hK'=>?_)
     go_simp
     (refine(CK.out _ hfd).mono ?_;rintro e wk ⟨v,rfl,rfl,hfk⟩)
     refine hK'.out _ _ (hfk.mono (by simp)) ?_
     clear hK' K'
     try simp only[nrm]
     refine htF 4 ?_ ?_ ?_
     rotate_left
     ·intro w' hC
      clear hC
      go_simp
      try rfl
     try simp only[nrm]
     have HFD:=Lib.hid (hfd.trans hfk)
     have hb3:=(HB6W.out _ HFD.out).2
     have f0:=free_of hb3 0
     have f1:=free_of hb3 1
     have f2:=free_of hb3 2
     have y0:=cell_of hb3 0
     have y1:=cell_of hb3 1
     have y2:=cell_of hb3 2
     have HP3:=Lib.hid (put3 (u:=.slice (some ⟨ba,0,none⟩) i ca) (v:=.slice (some ⟨bb,0,none⟩) i cb) (z:=.slice (some ⟨bw,0,none⟩) i cw) hb3 rfl)
     clear hb3 hfd hfk
     refine hstF 5 (fun K' hK'=>?_)
     go_simp
     (skip)
     refine hK'.out _ _ (((Frm.refl _ _).setCell _ (.inl (by simp)) _).setCell _ (.inl (by simp)) _ |>.setCell _ (.inl (by simp)) _) ?_
     clear hK' K'
     try simp only[nrm]
     refine htF 6 ?_ ?_ ?_
     rotate_left
     ·intro w' hC
      clear hC
      go_simp
      try rfl
     try simp only[nrm]
     refine wpAnyH_done (by kernel_rfl) ?_ _
     go_wp2
     refine bodyPost_ret (results_s2 rfl rfl rfl HP3.out.1 rfl) rfl ⟨_,rfl,(HQ.out.f.trans HFD.out).then HP3.out.2.1 (by intro q hq;simp at hq;omega),.inl ⟨z,_,by rw[HDC.out,if_pos (HKQ.out.2 HKK.out)],rfl,⟨⟨ba,bb,bw,bi,ca,cb,cw,by rw[HN.out],(HQ.out.frm HFD.out).ro.kt HP3.out.2.2 (by decide) (by decide) (by decide) (by decide) (by decide) (by decide),HLW.out⟩,HPS.out⟩⟩⟩
    ·have hb1:(kb.toList == key.toList)=false:=by rw[beq_eq_false_iff_ne];exact fun e=>hkk (ByteArray.ext (by rw[ByteArray.toList_eq,ByteArray.toList_eq] at e;exact Array.toList_inj.1 e))
     have HKK:=Lib.hid hkk
     clear hkk
     refine heldF_start (F:=[w.heap.size + 1]) (by kernel_rfl) ?_
     obtain⟨wd,hwd⟩:∃ wd,wl.drew=wd:=⟨_,rfl⟩
     have hfd:Frm [] wl wd:=by rw[← hwd];exact(Frm.refl _ _).drew
     rw[hwd]
     clear hwd
     refine cnt 0 ?_
     iterate 2
      refine hcF ?_ ?_ ?_
      rotate_left
      ·intro w' hC
       have hz:=hC.at (HB6W.out _ hfd).1 (by simp;omega)
       have z0:=cell_of hz 0
       have z1:=cell_of hz 1
       have z2:=cell_of hz 2
       clear hz
       clear hC
       go_simp
       try rfl
      try simp only[nrm,Nat.reduceAdd]
     refine tcn ?_
     refine htF 3 ?_ ?_ ?_
     rotate_left
     ·intro w' hC
      have hz:=hC.at (HB6W.out _ hfd).1 (by simp;omega)
      have z0:=cell_of hz 0
      have z1:=cell_of hz 1
      have z2:=cell_of hz 2
      clear hz
      clear hC
      go_simp
      try rfl
     try simp only[nrm]
     refine hstF 2 (fun K' hK'=>?_)
     go_simp
     (refine(CK.out _ hfd).mono ?_;rintro e wk ⟨v,rfl,rfl,hfk⟩)
     refine hK'.out _ _ (hfk.mono (by simp)) ?_
     clear hK' K'
     try simp only[nrm]
     refine htF 4 ?_ ?_ ?_
     rotate_left
     ·intro w' hC
      clear hC
      go_simp
      try rfl
     try simp only[nrm]
     have HFD:=Lib.hid (hfd.trans hfk)
     have hb3:=(HB6W.out _ HFD.out).2
     have f0:=free_of hb3 0
     have f1:=free_of hb3 1
     have f2:=free_of hb3 2
     have y0:=cell_of hb3 0
     have y1:=cell_of hb3 1
     have y2:=cell_of hb3 2
     have HP3:=Lib.hid (put3 (u:=.slice (some ⟨ba,0,none⟩) i ca) (v:=.slice (some ⟨bb,0,none⟩) i cb) (z:=.slice (some ⟨bw,0,none⟩) i cw) hb3 rfl)
     clear hb3 hfd hfk
     refine hstF 5 (fun K' hK'=>?_)
     go_simp
     (skip)
     refine hK'.out _ _ (((Frm.refl _ _).setCell _ (.inl (by simp)) _).setCell _ (.inl (by simp)) _ |>.setCell _ (.inl (by simp)) _) ?_
     clear hK' K'
     try simp only[nrm]
     refine htF 6 ?_ ?_ ?_
     rotate_left
     ·intro w' hC
      clear hC
      go_simp
      try rfl
     try simp only[nrm]
     refine wpAnyH_done (by kernel_rfl) ?_ _
     go_wp2
     refine bodyPost_ret (results_s2 rfl rfl rfl HP3.out.1 rfl) rfl ⟨_,rfl,(HQ.out.f.trans HFD.out).then HP3.out.2.1 (by intro q hq;simp at hq;omega),.inr ⟨by rw[HDC.out,if_neg (fun e=>HKK.out (HKQ.out.1 e))],_,rfl,rfl,one3v ..⟩⟩
theorem qDecode_any (s:SesD) (sv:Value) (key:ByteArray) (w:World) (hs:SesV w sv s) (hok:SesOk s) (hk:key.size≤300):Calls Tryz.prog 29 #[sv,.string key] w (RetV (QcTo w s (decP s (byt key)))):=qDeS.2 qDeT s sv key w hs hok hk
end Go.Proofs.YtkphhjekfimmlaaGreat
