/-
  Put together out of 1 texts.
-/
import Derived.Test.YtfgkfcfplodaoaaGreatDoorK6
import Derived.Test.YtfgkfcfplodaoaaGreatDoorK4
import Derived.Test.YtfgkfcfplodaoaaGreatDoorG18
set_option linter.unusedSimpArgs false
set_option linter.unusedVariables false
set_option maxRecDepth 100000
set_option maxHeartbeats 8000000
namespace Go.Proofs.YtfgkfcfplodaoaaGreatDoor
open Go Go.RowKit
section
abbrev TLight:=TTrust×Int×TAnchor×TStore×TTab×Int
abbrev lLt (x:TLight):List Leaf:=[.sc (.int .i64 x.1.1),.sc (.int .i64 x.1.2),.sc (.int .i64 x.2.1),.sc (.int .i64 x.2.2.1.1.1),.sc (.int .i64 x.2.2.1.1.2.1),.sc (.string x.2.2.1.1.2.2.1),.sc (.string x.2.2.1.1.2.2.2.1),.sc (.string x.2.2.1.1.2.2.2.2.1),.sc (.string x.2.2.1.1.2.2.2.2.2),.sl (rowsF cVal x.2.2.1.2),.sl (rowsF cHeader x.2.2.2.1.1),.sc (.int .i64 x.2.2.2.1.2),.sl (rowsF cPeer x.2.2.2.2.1.1),.sc (.int .i64 x.2.2.2.2.1.2),.sc (.int .i64 x.2.2.2.2.2)]
abbrev aLt (x:TLight):Arg:=.val true (lLt x)
abbrev rLt (x:TLight):List RL:=[.ro (.sc (.int .i64 x.1.1)),.ro (.sc (.int .i64 x.1.2)),.ro (.sc (.int .i64 x.2.1)),.ro (.sc (.int .i64 x.2.2.1.1.1)),.ro (.sc (.int .i64 x.2.2.1.1.2.1)),.ro (.sc (.string x.2.2.1.1.2.2.1)),.ro (.sc (.string x.2.2.1.1.2.2.2.1)),.ro (.sc (.string x.2.2.1.1.2.2.2.2.1)),.ro (.sc (.string x.2.2.1.1.2.2.2.2.2)),.own .ft 76 2 (rowsF cVal x.2.2.1.2),.own .ft 30 6 (rowsF cHeader x.2.2.2.1.1),.ro (.sc (.int .i64 x.2.2.2.1.2)),.own .ft 209 4 (rowsF cPeer x.2.2.2.2.1.1),.ro (.sc (.int .i64 x.2.2.2.2.1.2)),.ro (.sc (.int .i64 x.2.2.2.2.2))]
theorem aLt_inj {a b:TLight}(h:aLt a=aLt b):a=b:=by
 obtain⟨⟨p,s⟩,st,⟨⟨h1,h2,h3,h4,h5,h6⟩,v⟩,⟨l,n⟩,⟨q,m⟩,now⟩:=a
 obtain⟨⟨p',s'⟩,st',⟨⟨h1',h2',h3',h4',h5',h6'⟩,v'⟩,⟨l',n'⟩,⟨q',m'⟩,now'⟩:=b
 simp at h
 simp [h]
abbrev okLtW (x:TLight):Prop:=x.2.2.1.2.length≤8796093022207∧x.2.2.2.1.1.length≤8796093022207∧x.2.2.2.2.1.1.length≤8796093022207
abbrev okLtC (x:TLight):Prop:=x.2.2.1.2.length≤1048576∧x.2.2.2.1.1.length≤1048576∧x.2.2.2.2.1.1.length≤1048576
def lightOk (x:TLight):Prop:=trustOk x.1∧anchorOk x.2.2.1∧storeOk x.2.2.2.1∧tabOk x.2.2.2.2.1∧(1≤x.2.1∧x.2.1≤2)∧(0≤x.2.2.2.2.2∧x.2.2.2.2.2≤1000000)∧0<x.2.2.2.1.1.length∧hdD x.2.2.2.1.1 (x.2.2.2.1.1.length-1)=x.2.2.1.1
open Classical in
noncomputable instance (x:TLight):Decidable (lightOk x):=Classical.propDecidable _
noncomputable def mCopyL:=mdl okLtC (fun x=>[aLt x]) (fun x=>.comp true (rLt x))
theorem mCopyL_eq (x:TLight)(h:okLtC x):mCopyL [aLt x]=some (.comp true (rLt x)):=mdl_eq (fun a b h=>aLt_inj (by injection h)) x h
noncomputable def mLight:=mdl okLtW (fun x=>[aLt x]) (fun x=>rB (decide (lightOk x)))
theorem mLight_eq (x:TLight)(h:okLtW x):mLight [aLt x]=some (rB (decide (lightOk x))):=mdl_eq (fun a b h=>aLt_inj (by injection h)) x h
theorem copyLI_s:Sound Tryz.prog 196 mCopyL:=by
 refine Sound.mdl Tryz.func196 rfl Tryz.ntmps196 ?_
 rintro⟨⟨p,s⟩,st,⟨⟨h1,h2,h3,h4,h5,h6⟩,v⟩,⟨l,n⟩,⟨q,m⟩,now⟩ w ⟨hv,hl,hq⟩
 refine⟨by simp,?_⟩
 replace hv:v.length≤1048576:=hv
 replace hl:l.length≤1048576:=hl
 replace hq:q.length≤1048576:=hq
 have hΓ:=env_cons (hsO Tryz.func60) copyAI_s (env_cons (hsO Tryz.func236) copySt_s (env_cons (hsO Tryz.func190) copyTI_s env_nil))
 have c1:=mCopyA_eq ((h1,h2,h3,h4,h5,h6),v) hv
 have c2:=mCopySt_eq (l,n) hl
 have c3:=mCopyT_eq (q,m) hq
 refine zJ ?_
 refine At.retA (by rw [Tryz.results196]) (he:=rfl)
def asEvLight1:List (List Nat):=[[],[0],[0,1],[0,1,2],[0,1,2,3],[0,1,2,3,4],[0,1,2,3,4,5],[0,1,2,3,4,5,6],[0,1,2,3,4,5,6,7],[0,1,2,3,4,5,6,7,8],[0,1,2,3,4,5,6,7,8,9],[0,1,2,3,4,5,6,7,8,9,10],[0,1,2,3,4,5,6,7,8,9,10,11],[0,1,2,3,4,5,6,7,8,9,10,11,12],[0,1,2,3,4,5,6,7,8,9,10,11,12,13],[0,1,2,3,4,5,6,7,8,9,10,11,12,13,14],[0,1,2,3,4,5,6,7,8,9,10,11,12],[0,1,2,3,4,5,6,7,8,9,10,11,12,16],[0,1,2,3,4,5,6,7,8,9,10,11,12,13,14,15,16,17],[0,1,2,3,4,5,6,7,8,9,10,11,12,13,14,15,16,17,18],[0,1,2,3,4,5,6,7,8,9,10,11,12],[0,1,2,3,4,5,6,7,8,9,10,11,12,20],[0,1,2,3,4,5,6,7,8,9,10,11,12,20,21],[0,1,2,3,4,5,6,7,8,9,10,11,12,13,14,15,16,17,18,19,20,21,22],[0,1,2,3,4,5,6,7,8,9,10,11,12,13,14,15,16,17,18,19,20,21,22,23],[0,1,2,3,4,5,6,7,8,9,10,11,12,13,14,15,16,17,18,19,20,21,22,23,24]]
theorem lightI_s:Sound Tryz.prog 195 mLight:=by
 refine Sound.mdl Tryz.func195 rfl Tryz.ntmps195 ?_
 rintro⟨⟨p,s⟩,st,⟨⟨h1,h2,h3,h4,h5,h6⟩,v⟩,⟨l,n⟩,⟨q,m⟩,now⟩ w ⟨hv,hl,hq⟩
 refine⟨by simp,?_⟩
 replace hv:v.length≤8796093022207:=hv
 replace hl:l.length≤8796093022207:=hl
 replace hq:q.length≤8796093022207:=hq
 have hΓ:=env_cons (hsO Tryz.func122) trustI_s (env_cons (hsO Tryz.func123) anchorI_s (env_cons (hsO Tryz.func235) stoI_s (env_cons (hsO Tryz.func189) tabI_s (env_cons (hsO Tryz.func139) within_s (env_cons (hsO Tryz.func125) isTime_s env_nil)))))
 have c1:=mTrust_eq (p,s)
 have c2:=mAnchor_eq ((h1,h2,h3,h4,h5,h6),v) hv
 have c3:=mSto_eq (l,n) hl
 have c4:=mTab_eq (q,m) hq
 have c5:=mWithin_eq st 1 2
 have c6:=mTime_eq now
 have hlen:=rowsF_len cHeader l
 refine zI ?_
 by_cases g1:trustOk (p,s)
 ·have k1:=g1
  rw [decide_eq_true g1]at c1
  by_cases g2:anchorOk ((h1,h2,h3,h4,h5,h6),v)
  ·have k2:=g2
   rw [decide_eq_true g2]at c2
   by_cases g3:storeOk (l,n)
   ·have k3:=g3
    rw [decide_eq_true g3]at c3
    by_cases g4:tabOk (q,m)
    ·have k4:=g4
     rw [decide_eq_true g4]at c4
     by_cases g5:1≤st∧st≤2
     ·have k5:=g5
      rw [decide_eq_true g5]at c5
      by_cases g6:0≤now∧now≤1000000
      ·have k6:=g6
       rw [decide_eq_true g6]at c6
       by_cases g7:0<l.length
       ·have k7:=g7
        have hrow:(rowsF cHeader l)[l.length-1]?=some (lHd (hdD l (l.length-1))):=hdD_row (by omega)
        have hv:decide (lightOk ((p,s),st,((h1,h2,h3,h4,h5,h6),v),(l,n),(q,m),now))=decide (hdD l (l.length-1)=(h1,h2,h3,h4,h5,h6)):=decide_eq_decide.2 ⟨fun h=>h.2.2.2.2.2.2.2,fun h=>⟨g1,g2,g3,g4,g5,g6,g7,h⟩⟩
        replace hv:=Lib.hid hv
        have ek:((l.length:Int)-1).toNat=l.length-1:=by omega
        clear g1 g2 g3 g4 k1 k2 k3 k4 k5 k6
        generalize hdD l (l.length-1)=y at*
        obtain⟨y1,y2,y3,y4,y5,y6⟩:=y
        dsimp only [lHd]at hrow
        refine zR ?_
        refine W.drawB hΓ 26 asEvLight1 (Es:=?Es8) (rest:=?rest8) (st1:=?st18) ?_
        refine zQ ?_
        refine At.retA (by rw [Tryz.results195]) (he:=?_)
        rw [hv.out]
        simp [Prod.ext_iff]
       ·have hbd:decide (lightOk ((p,s),st,((h1,h2,h3,h4,h5,h6),v),(l,n),(q,m),now))=false:=dcF fun h=>g7 h.2.2.2.2.2.2.1
        replace hbd:=Lib.hid hbd
        refine zR ?_
        refine W.drawB hΓ 26 asEvLight1 (Es:=?Es12) (rest:=?rest12) (st1:=?st112) ?_
        refine zQ ?_
        refine At.retA (by rw [Tryz.results195]) (he:=?_)
        rw [hbd.out]
      ·have hbd:decide (lightOk ((p,s),st,((h1,h2,h3,h4,h5,h6),v),(l,n),(q,m),now))=false:=dcF fun h=>g6 h.2.2.2.2.2.1
       replace hbd:=Lib.hid hbd
       rw [decide_eq_false g6]at c6
       refine zR ?_
       refine W.drawB hΓ 26 asEvLight1 (Es:=?Es16) (rest:=?rest16) (st1:=?st116) ?_
       refine zQ ?_
       refine At.retA (by rw [Tryz.results195]) (he:=?_)
       rw [hbd.out]
     ·have hbd:decide (lightOk ((p,s),st,((h1,h2,h3,h4,h5,h6),v),(l,n),(q,m),now))=false:=dcF fun h=>g5 h.2.2.2.2.1
      replace hbd:=Lib.hid hbd
      rw [decide_eq_false g5]at c5
      clear c6
      refine zR ?_
      refine W.drawB hΓ 26 asEvLight1 (Es:=?Es20) (rest:=?rest20) (st1:=?st120) ?_
      refine zQ ?_
      refine At.retA (by rw [Tryz.results195]) (he:=?_)
      rw [hbd.out]
    ·have hbd:decide (lightOk ((p,s),st,((h1,h2,h3,h4,h5,h6),v),(l,n),(q,m),now))=false:=dcF fun h=>g4 h.2.2.2.1
     replace hbd:=Lib.hid hbd
     rw [decide_eq_false g4]at c4
     clear c5 c6
     refine zR ?_
     refine At.retA (by rw [Tryz.results195]) (he:=?_)
     rw [hbd.out]
   ·have hbd:decide (lightOk ((p,s),st,((h1,h2,h3,h4,h5,h6),v),(l,n),(q,m),now))=false:=dcF fun h=>g3 h.2.2.1
    replace hbd:=Lib.hid hbd
    rw [decide_eq_false g3]at c3
    clear c4 c5 c6
    refine zR ?_
    refine At.retA (by rw [Tryz.results195]) (he:=?_)
    rw [hbd.out]
  ·have hbd:decide (lightOk ((p,s),st,((h1,h2,h3,h4,h5,h6),v),(l,n),(q,m),now))=false:=dcF fun h=>g2 h.2.1
   replace hbd:=Lib.hid hbd
   rw [decide_eq_false g2]at c2
   clear c3 c4 c5 c6
   refine zR ?_
   refine At.retA (by rw [Tryz.results195]) (he:=?_)
   rw [hbd.out]
 ·have hbd:decide (lightOk ((p,s),st,((h1,h2,h3,h4,h5,h6),v),(l,n),(q,m),now))=false:=dcF fun h=>g1 h.1
  replace hbd:=Lib.hid hbd
  rw [decide_eq_false g1]at c1
  clear c2 c3 c4 c5 c6
  refine zR ?_
  refine At.retA (by rw [Tryz.results195]) (he:=?_)
  rw [hbd.out]
def asEvLight0:List (List Nat):=[[],[0],[0,1],[0,1,2],[0,1,2,3],[0,1,2,3,4],[0,1,2,3,4,5],[0,1,2,3,4,5,6],[0,1,2,3,4,5,6,7],[0,1,2,3,4,5,6,7,8],[0,1,2,3,4,5,6,7,8,9],[0,1,2,3,4,5,6,7,8,9,10],[0,1,2,3,4,5,6,7,8,9,10,11],[0,1,2,3,4,5,6,7,8,9,10,11,12],[0,1,2,3,4,5,6,7,8,9,10,11,12,13],[0,1,2,3,4,5,6,7,8,9,10,11,12,13,14],[0,1,2,3,4,5,6,7,8,9,10,11,12,13,14,15],[0,1,2,3,4,5,6,7,8,9,10,11,12,13,14,15,16],[0,1,2,3,4,5,6,7,8,9,10,11,12,13,14,15,16,17],[0,1,2,3,4,5,6,7,8,9,10,11,12,13,14,15,16,17,18],[0,1,2,3,4,5,6,7,8,9,10,11,12,13,14,15,16,17,18,19],[0,1,2,3,4,5,6,7,8,9,10,11,12,13,14,15,16,17,18,19,20],[0,1,2,3,4,5,6,7,8,9,10,11,12,13,14,15,16,17,18,19,20,21],[0,1,2,3,4,5,6,7,8,9,10,11,12,13,14,15,16,17,18,19,20,21,22],[0,1,2,3,4,5,6,7,8,9,10,11,12,13,14,15,16,17,18,19,20,21,22,23],[0,1,2,3,4,5,6,7,8,9,10,11,12,13,14,15,16,17,18,19,20,21,22,23,24],[0,1,2,3,4,5,6,7,8,9,10,11,12,13,14,15,16,17,18,19,20,21,22,23,24,25],[0,1,2,3,4,5,6,7,8,9,10,11,12,13,14,15,16,17,18,19,20,21,22,23,24,25,26],[0,1,2,3,4,5,6,7,8,9,10,11,12,13,14,15,16,17,18,19,20,21,22,23,24,25,26,27],[0,1,2,3,4,5,6,7,8,9,10,11,12,13,14,15,16,17,18,19,20,21,22,23,24,25,26,27,28],[0,1,2,3,4,5,6,7,8,9,10,11,12,13,14,15,16,17,18,19,20,21,22,23,24,25,26,27,28,29],[0,1,2,3,4,5,6,7,8,9,10,11,12,13,14,15,16,17,18,19,20,21,22,23,24,25,26,27,28,29,30],[0,1,2,3,4,5,6,7,8,9,10,11,12,13,14,15,16,17,18,19,20,21,22,23,24,25,26,27,28,29,30,31],[0,1,2,3,4,5,6,7,8,9,10,11,12,13,14,15,16,17,18,19,20,21,22,23,24,25,26,27,28,29,30,31,32],[0,1,2,3,4,5,6,7,8,9,10,11,12,13,14,15,16,17,18,19,20,21,22,23,24,25,26,27,28,29,30,31,32,33],[0,1,2,3,4,5,6,7,8,9,10,11,12,13,14,15,16,17,18,19,20,21,22,23,24,25,26,27,28,29,30,31,32,33,34],[0,1,2,3,4,5,6,7,8,9,10,11,12,13,14,15,16,17,18,19,20,21,22,23,24,25,26,27,28,29,30,31,32],[0,1,2,3,4,5,6,7,8,9,10,11,12,13,14,15,16,17,18,19,20,21,22,23,24,25,26,27,28,29,30,31,32,36],[0,1,2,3,4,5,6,7,8,9,10,11,12,13,14,15,16,17,18,19,20,21,22,23,24,25,26,27,28,29,30,31,32,33,34,35,36,37],[0,1,2,3,4,5,6,7,8,9,10,11,12,13,14,15,16,17,18,19,20,21,22,23,24,25,26,27,28,29,30,31,32,33,34,35,36,37,38],[0,1,2,3,4,5,6,7,8,9,10,11,12,13,14,15,16,17,18,19,20,21,22,23,24,25,26,27,28,29,30,31,32],[0,1,2,3,4,5,6,7,8,9,10,11,12,13,14,15,16,17,18,19,20,21,22,23,24,25,26,27,28,29,30,31,32,40],[0,1,2,3,4,5,6,7,8,9,10,11,12,13,14,15,16,17,18,19,20,21,22,23,24,25,26,27,28,29,30,31,32,40,41],[0,1,2,3,4,5,6,7,8,9,10,11,12,13,14,15,16,17,18,19,20,21,22,23,24,25,26,27,28,29,30,31,32,33,34,35,36,37,38,39,40,41,42],[0,1,2,3,4,5,6,7,8,9,10,11,12,13,14,15,16,17,18,19,20,21,22,23,24,25,26,27,28,29,30,31,32,33,34,35,36,37,38,39,40,41,42,43],[0,1,2,3,4,5,6,7,8,9,10,11,12,13,14,15,16,17,18,19,20,21,22,23,24,25,26,27,28,29,30,31,32,33,34,35,36,37,38,39,40,41,42,43,44]]
theorem lightS_s:Sound Tryz.prog 204 mLight:=by
 refine Sound.mdl Tryz.func204 rfl Tryz.ntmps204 ?_
 rintro⟨⟨p,s⟩,st,⟨⟨h1,h2,h3,h4,h5,h6⟩,v⟩,⟨l,n⟩,⟨q,m⟩,now⟩ w ⟨hv,hl,hq⟩
 refine⟨by simp,?_⟩
 replace hv:v.length≤8796093022207:=hv
 replace hl:l.length≤8796093022207:=hl
 replace hq:q.length≤8796093022207:=hq
 have hΓ:=env_cons (hsO Tryz.func71) trustS_s (env_cons (hsO Tryz.func72) anchorS_s (env_cons (hsO Tryz.func210) stoS_s (env_cons (hsO Tryz.func207) tabS_s (env_cons (hsO Tryz.func39) l1In_s (env_cons (hsO Tryz.func74) l10Time_s env_nil)))))
 have c1:=mTrust_eq (p,s)
 have c2:=mAnchor_eq ((h1,h2,h3,h4,h5,h6),v) hv
 have c3:=mSto_eq (l,n) hl
 have c4:=mTab_eq (q,m) hq
 have c5:=mIn_eq st 1 2
 have c6:=mTime_eq now
 have hlen:=rowsF_len cHeader l
 refine zI ?_
 by_cases g1:trustOk (p,s)
 ·have k1:=g1
  rw [decide_eq_true g1]at c1
  by_cases g2:anchorOk ((h1,h2,h3,h4,h5,h6),v)
  ·have k2:=g2
   rw [decide_eq_true g2]at c2
   by_cases g3:storeOk (l,n)
   ·have k3:=g3
    rw [decide_eq_true g3]at c3
    by_cases g4:tabOk (q,m)
    ·have k4:=g4
     rw [decide_eq_true g4]at c4
     by_cases g5:1≤st∧st≤2
     ·have k5:=g5
      rw [decide_eq_true g5]at c5
      by_cases g6:0≤now∧now≤1000000
      ·have k6:=g6
       rw [decide_eq_true g6]at c6
       by_cases g7:0<l.length
       ·have k7:=g7
        have hrow:(rowsF cHeader l)[l.length-1]?=some (lHd (hdD l (l.length-1))):=hdD_row (by omega)
        have hv:decide (lightOk ((p,s),st,((h1,h2,h3,h4,h5,h6),v),(l,n),(q,m),now))=decide (hdD l (l.length-1)=(h1,h2,h3,h4,h5,h6)):=decide_eq_decide.2 ⟨fun h=>h.2.2.2.2.2.2.2,fun h=>⟨g1,g2,g3,g4,g5,g6,g7,h⟩⟩
        replace hv:=Lib.hid hv
        have ek:((l.length:Int)-1).toNat=l.length-1:=by omega
        clear g1 g2 g3 g4 k1 k2 k3 k4 k5 k6
        generalize hdD l (l.length-1)=y at*
        obtain⟨y1,y2,y3,y4,y5,y6⟩:=y
        dsimp only [lHd]at hrow
        refine zR ?_
        refine W.drawB hΓ 46 asEvLight0 (Es:=?Es34) (rest:=?rest34) (st1:=?st134) ?_
        refine zQ ?_
        refine At.retA (by rw [Tryz.results204]) (he:=?_)
        rw [hv.out]
        simp [Prod.ext_iff]
       ·have hbd:decide (lightOk ((p,s),st,((h1,h2,h3,h4,h5,h6),v),(l,n),(q,m),now))=false:=dcF fun h=>g7 h.2.2.2.2.2.2.1
        replace hbd:=Lib.hid hbd
        refine zR ?_
        refine W.drawB hΓ 46 asEvLight0 (Es:=?Es38) (rest:=?rest38) (st1:=?st138) ?_
        refine zQ ?_
        refine At.retA (by rw [Tryz.results204]) (he:=?_)
        rw [hbd.out]
      ·have hbd:decide (lightOk ((p,s),st,((h1,h2,h3,h4,h5,h6),v),(l,n),(q,m),now))=false:=dcF fun h=>g6 h.2.2.2.2.2.1
       replace hbd:=Lib.hid hbd
       rw [decide_eq_false g6]at c6
       refine zR ?_
       refine W.drawB hΓ 46 asEvLight0 (Es:=?Es42) (rest:=?rest42) (st1:=?st142) ?_
       refine zQ ?_
       refine At.retA (by rw [Tryz.results204]) (he:=?_)
       rw [hbd.out]
     ·have hbd:decide (lightOk ((p,s),st,((h1,h2,h3,h4,h5,h6),v),(l,n),(q,m),now))=false:=dcF fun h=>g5 h.2.2.2.2.1
      replace hbd:=Lib.hid hbd
      rw [decide_eq_false g5]at c5
      clear c6
      refine zR ?_
      refine W.drawB hΓ 46 asEvLight0 (Es:=?Es46) (rest:=?rest46) (st1:=?st146) ?_
      refine zQ ?_
      refine At.retA (by rw [Tryz.results204]) (he:=?_)
      rw [hbd.out]
    ·have hbd:decide (lightOk ((p,s),st,((h1,h2,h3,h4,h5,h6),v),(l,n),(q,m),now))=false:=dcF fun h=>g4 h.2.2.2.1
     replace hbd:=Lib.hid hbd
     rw [decide_eq_false g4]at c4
     clear c5 c6
     refine zR ?_
     refine W.drawB hΓ 46 asEvLight0 (Es:=?Es50) (rest:=?rest50) (st1:=?st150) ?_
     refine zQ ?_
     refine At.retA (by rw [Tryz.results204]) (he:=?_)
     rw [hbd.out]
   ·have hbd:decide (lightOk ((p,s),st,((h1,h2,h3,h4,h5,h6),v),(l,n),(q,m),now))=false:=dcF fun h=>g3 h.2.2.1
    replace hbd:=Lib.hid hbd
    rw [decide_eq_false g3]at c3
    clear c4 c5 c6
    refine zR ?_
    refine W.drawB hΓ 46 asEvLight0 (Es:=?Es54) (rest:=?rest54) (st1:=?st154) ?_
    refine zQ ?_
    refine At.retA (by rw [Tryz.results204]) (he:=?_)
    rw [hbd.out]
  ·have hbd:decide (lightOk ((p,s),st,((h1,h2,h3,h4,h5,h6),v),(l,n),(q,m),now))=false:=dcF fun h=>g2 h.2.1
   replace hbd:=Lib.hid hbd
   rw [decide_eq_false g2]at c2
   clear c3 c4 c5 c6
   refine zR ?_
   refine W.drawB hΓ 46 asEvLight0 (Es:=?Es58) (rest:=?rest58) (st1:=?st158) ?_
   refine zQ ?_
   refine At.retA (by rw [Tryz.results204]) (he:=?_)
   rw [hbd.out]
 ·have hbd:decide (lightOk ((p,s),st,((h1,h2,h3,h4,h5,h6),v),(l,n),(q,m),now))=false:=dcF fun h=>g1 h.1
  replace hbd:=Lib.hid hbd
  rw [decide_eq_false g1]at c1
  clear c2 c3 c4 c5 c6
  refine zR ?_
  refine W.drawB hΓ 46 asEvLight0 (Es:=?Es62) (rest:=?rest62) (st1:=?st162) ?_
  refine zQ ?_
  refine At.retA (by rw [Tryz.results204]) (he:=?_)
  rw [hbd.out]
end
end Go.Proofs.YtfgkfcfplodaoaaGreatDoor
