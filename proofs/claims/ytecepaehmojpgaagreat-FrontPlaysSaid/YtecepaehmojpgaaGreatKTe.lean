/-
The abstract layer:an owned array told as a slice that nobody writes,between two steps of a walk. No program in sight. No conditions.
-/
import Derived.Test.YtecepaehmojpgaaGreatKe
open List renaming getD_eq_getElem?_getD→Ka
set_option linter.unusedSimpArgs false
set_option linter.unusedVariables false
set_option linter.unusedSectionVars false
set_option maxHeartbeats 8000000
namespace Go.Proofs.YtecepaehmojpgaaGreat
open Go.RowKit
theorem gG.set{K:Ker}{sl:List V}{a:Act}(r:gG K sl a){t:Nat}{v:V}(hv:VR K v (a.tmps.getD t Go.undef)):gG K (sl.set t v) a:=by
 refine⟨by rw[List.length_set];exact r.1,fun u=>?_⟩;by_cases e:u=t
 ·subst e;by_cases hl:u<sl.length
  ·rw[Ka,List.getElem?_set_self hl];exact hv
  have:=r.2 u;rw[List.set_eq_of_length_le or];exact this
 have:=r.2 u;rw[Ka] at this⊢;rw[List.getElem?_set_ne (fun h=>e h.symm)];exact this
theorem tt{sl:List V}{h:Hp}{nx t n off len:Nat}{k:Sh}{es:List V}(ht:sl.getD t V.undef= .rs n k off len)(hn:h n=some (.arr k es))(hb:off+len≤es.length):
 af ⟨sl,h,nx⟩ ⟨sl.set t (.sl k .free ((es.drop off).take len)),h.del n,nx+1⟩:=by
 intro K0 K nx0 a r;have hv:=r.aAF.2 t;rw[ht] at hv;have hfr:¬K.live nx:=fun hh=>Nat.lt_irrefl _ (r.live nx hh).1;obtain⟨K',q1,q2,q3,q4,q5⟩:=qU r.rel hn hfr hb hv;refine⟨K',q1,r.le.trans q2,(r.aAF.mono q2).set q4,q5,fun m hm=>?_,Nat.le_succ_of_le r.nx,by rw[q1];exact r.defers⟩;rcases q3 m hm with hm|rfl
 ·have:=r.live m hm;exact⟨Nat.lt_succ_of_lt this.1,this.2⟩
 exact⟨Nat.lt_succ_self _, .inr r.nx⟩
theorem ze{sl:List V}{h:Hp}{nx:Nat}(t:Nat){v:V}(ht:sl.getD t V.undef=v):af ⟨sl,h,nx⟩ ⟨sl.set t v.loose,h,nx⟩:=by
 intro K0 K nx0 a r;have hv:=r.aAF.2 t;rw[ht] at hv;exact⟨K,rfl,r.le,r.aAF.set hv.loose,r.rel,r.live,r.nx,r.defers⟩
end Go.Proofs.YtecepaehmojpgaaGreat
