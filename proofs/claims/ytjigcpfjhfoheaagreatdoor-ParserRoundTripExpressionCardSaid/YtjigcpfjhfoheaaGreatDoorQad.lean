/- The parser as plain functions on a list of tokens; no program in sight; The reference's reader as plain functions; it reads as the parser does; Readers never go back; statements; the reference reads as the parser does; Readers loo. -/
import Derived.Test.YtjigcpfjhfoheaaGreatDoorQaa
import Derived.Test.YtjigcpfjhfoheaaGreatDoorQab
namespace Go.Proofs.YtjigcpfjhfoheaaGreatDoor
open Go.RowKit
set_option maxHeartbeats 1000000
set_option maxRecDepth 100000
set_option linter.unusedVariables false
set_option linter.unusedSimpArgs false
section
open Lx (Tk)
structure Ps where
 r:List Tk
 bad:Bool
def Ps.hd (s:Ps):Tk:=s.r.headD ⟨0,[],0⟩
def Ps.next (s:Ps):Ps:=⟨s.r.tail,s.bad⟩
def Ps.fail (s:Ps):Ps:=⟨s.r,true⟩
def tkB (t:Tk):ByteArray:=⟨t.text.toArray⟩
abbrev M (α:Type):=Ps→α×Ps
def isS (t:ByteArray) (s:Ps):Bool:=!s.bad&& ((s.hd.kind==2||s.hd.kind==5) &&decide (tkB s.hd=t))
def au (t:ByteArray):M Bool:=fun s=> (isS t s,if isS t s then s.next else s)
def needP (t:ByteArray) (s:Ps):Ps:=if isS t s then s.next else s.fail
def hasK (k:Nat) (s:Ps):Bool:=!s.bad&&s.hd.kind==k
def takP (k:Nat):M ByteArray:=fun s=>if hasK k s then (tkB s.hd,s.next)else (⟨#[]⟩,s.fail)
def eb (b:ByteArray):Int:=(Lx.digVal b.data.toList:Nat)
def bj:M Int:=fun s=> (eb (takP 3 s).1,(takP 3 s).2)
def posP:M Int:=fun s=>bj (if hasK 3 s&&eb (tkB s.hd)==0 then s.fail else s)
def opE (o:Int) (ks:List Ex):Ex:= .mk ⟨o,⟨#[]⟩,⟨#[]⟩,0,0,0,⟨#[]⟩⟩ ks
def cQ (k i:Int) (t:ByteArray):Ex:= .mk ⟨1,⟨#[]⟩,⟨#[]⟩,0,k,i,t⟩ []
def colE (t n:ByteArray):Ex:= .mk ⟨2,t,n,0,0,0,⟨#[]⟩⟩ []
abbrev kAND:ByteArray:=⟨#[65,78,68]⟩
abbrev kOR:ByteArray:=⟨#[79,82]⟩
abbrev kNOT:ByteArray:=⟨#[78,79,84]⟩
abbrev kIS:ByteArray:=⟨#[73,83]⟩
abbrev kNULL:ByteArray:=⟨#[78,85,76,76]⟩
abbrev ib:ByteArray:=⟨#[76,73,75,69]⟩
abbrev dm:ByteArray:=⟨#[66,69,84,87,69,69,78]⟩
abbrev kIN:ByteArray:=⟨#[73,78]⟩
abbrev ec:ByteArray:=⟨#[76,69,78,71,84,72]⟩
abbrev kCREATE:ByteArray:=⟨#[67,82,69,65,84,69]⟩
abbrev kTABLE:ByteArray:=⟨#[84,65,66,76,69]⟩
abbrev dF:ByteArray:=⟨#[73,78,83,69,82,84]⟩
abbrev kINTO:ByteArray:=⟨#[73,78,84,79]⟩
abbrev kVALUES:ByteArray:=⟨#[86,65,76,85,69,83]⟩
abbrev dG:ByteArray:=⟨#[85,80,68,65,84,69]⟩
abbrev kSET:ByteArray:=⟨#[83,69,84]⟩
abbrev kQ:ByteArray:=⟨#[68,69,76,69,84,69]⟩
abbrev kFROM:ByteArray:=⟨#[70,82,79,77]⟩
abbrev iE:ByteArray:=⟨#[83,69,76,69,67,84]⟩
abbrev kBEGIN:ByteArray:=⟨#[66,69,71,73,78]⟩
abbrev kR:ByteArray:=⟨#[67,79,77,77,73,84]⟩
abbrev gF:ByteArray:=⟨#[82,79,76,76,66,65,67,75]⟩
abbrev kTO:ByteArray:=⟨#[84,79]⟩
abbrev fx:ByteArray:=⟨#[83,65,86,69,80,79,73,78,84]⟩
abbrev jc:ByteArray:=⟨#[82,69,76,69,65,83,69]⟩
abbrev dp:ByteArray:=⟨#[87,72,69,82,69]⟩
abbrev kPRIMARY:ByteArray:=⟨#[80,82,73,77,65,82,89]⟩
abbrev kKEY:ByteArray:=⟨#[75,69,89]⟩
abbrev kUNIQUE:ByteArray:=⟨#[85,78,73,81,85,69]⟩
abbrev kCHECK:ByteArray:=⟨#[67,72,69,67,75]⟩
abbrev kFOREIGN:ByteArray:=⟨#[70,79,82,69,73,71,78]⟩
abbrev lT:ByteArray:=⟨#[82,69,70,69,82,69,78,67,69,83]⟩
abbrev kINTEGER:ByteArray:=⟨#[73,78,84,69,71,69,82]⟩
abbrev kTEXT:ByteArray:=⟨#[84,69,88,84]⟩
abbrev fl:ByteArray:=⟨#[74,79,73,78]⟩
abbrev kON:ByteArray:=⟨#[79,78]⟩
abbrev jd:ByteArray:=⟨#[71,82,79,85,80]⟩
abbrev kBY:ByteArray:=⟨#[66,89]⟩
abbrev je:ByteArray:=⟨#[79,82,68,69,82]⟩
abbrev jf:ByteArray:=⟨#[76,73,77,73,84]⟩
abbrev kAS:ByteArray:=⟨#[65,83]⟩
abbrev kASC:ByteArray:=⟨#[65,83,67]⟩
abbrev ki:ByteArray:=⟨#[68,69,83,67]⟩
abbrev yLp:ByteArray:=⟨#[40]⟩
abbrev yRp:ByteArray:=⟨#[41]⟩
abbrev yCm:ByteArray:=⟨#[44]⟩
abbrev yDot:ByteArray:=⟨#[46]⟩
abbrev dT:ByteArray:=⟨#[42]⟩
abbrev ct:ByteArray:=⟨#[45]⟩
abbrev yEq:ByteArray:=⟨#[61]⟩
abbrev f7:ByteArray:=⟨#[59]⟩
def firstP:List (ByteArray×Int)→Ps→Option Int×Ps
 | [],s=> (none,s)
 |(t,o)::l,s=>if isS t s then (some o,s.next)else firstP l s
def aM (el:M Ex) (ops:List (ByteArray×Int)):Nat→Ex→Ps→Ex×Ps
 |0,e,s=> (e,s)
 |n+1,e,s=>
  match (firstP ops s).1 with
  |none=> (e,s)
  |some o=>aM el ops n (opE o [e,(el (firstP ops s).2).1]) (el (firstP ops s).2).2
def aL (el:M Ex) (ops:List (ByteArray×Int)):M Ex:=fun s=>aM el ops (s.r.length+1) (el s).1 (el s).2
def listGo {α:Type} (el:M α):Nat→List α→Ps→List α×Ps
 |0,out,s=> (out,s)
 |n+1,out,s=>if isS yCm s then listGo el n (out++ [(el s.next).1]) (el s.next).2 else (out,s)
def listP {α:Type} (el:M α):M (List α):=fun s=>listGo el (s.r.length+1) [(el s).1] (el s).2
def opsOr:List (ByteArray×Int):= [(⟨#[79,82]⟩,19)]
def opsAnd:List (ByteArray×Int):= [(⟨#[65,78,68]⟩,18)]
def opsSum:List (ByteArray×Int):= [(⟨#[43]⟩,4),(⟨#[45]⟩,5)]
def opsPro:List (ByteArray×Int):= [(⟨#[42]⟩,6),(⟨#[47]⟩,7),(⟨#[37]⟩,8)]
def opsCmp:List (ByteArray×Int):= [(⟨#[61]⟩,10),(⟨#[60,62]⟩,11),(⟨#[60]⟩,12),(⟨#[60,61]⟩,13),(⟨#[62]⟩,14),(⟨#[62,61]⟩,15)]
def opsAgg:List (ByteArray×Int):= [(⟨#[67,79,85,78,84]⟩,2),(⟨#[83,85,77]⟩,3),(⟨#[77,73,78]⟩,4),(⟨#[77,65,88]⟩,5)]
def cU:M Ex:=fun s=>
 if isS yDot (takP 1 s).2 then (colE (takP 1 s).1 (takP 1 (takP 1 s).2.next).1,(takP 1 (takP 1 s).2.next).2)
 else (colE ⟨#[]⟩ (takP 1 s).1,(takP 1 s).2)
def negE (b:Bool) (e:Ex):Ex:=if b then opE 20 [e]else e
def optP (t:ByteArray) (s:Ps):Ps:=if isS t s then s.next else s
section
variable (rec:M Ex)
def aE:M Ex:=fun s=>
 if hasK 3 s then (cQ 1 (bj s).1 ⟨#[]⟩,(bj s).2)
 else if hasK 4 s then (cQ 2 0 (takP 4 s).1,(takP 4 s).2)
 else if isS kNULL s then (cQ 0 0 ⟨#[]⟩,s.next)
 else if isS ec s then (opE 9 [(rec (needP yLp s.next)).1],needP yRp (rec (needP yLp s.next)).2)
 else if isS yLp s then ((rec s.next).1,needP yRp (rec s.next).2)
 else cU s
def cj (prim:M Ex):M Ex:=fun s=>if isS ct s then (opE 3 [(prim s.next).1],(prim s.next).2)else prim s
def eq (prim:M Ex):M Ex:=aL (cj prim) opsPro
def sumP (prim:M Ex):M Ex:=aL (eq prim) opsSum
def fg (sum:M Ex) (a:Ex):Nat→Ex→Ps→Ex×Ps
 |0,e,s=> (e,s)
 |n+1,e,s=>if isS yCm s then fg sum a n (opE 19 [e,opE 10 [a,(sum s.next).1]]) (sum s.next).2 else (e,s)
def inP (sum:M Ex) (a:Ex):M Ex:=fun s=>fg sum a (s.r.length+1) (opE 10 [a,(sum s).1]) (sum s).2
def cm (sum:M Ex) (a:Ex):M Ex:=fun s=>
 match (firstP opsCmp s).1 with
 |some o=> (opE o [a,(sum (firstP opsCmp s).2).1],(sum (firstP opsCmp s).2).2)
 |none=>
  if isS kIS s then (negE (isS kNOT s.next) (opE 17 [a]),needP kNULL (optP kNOT s.next))
  else if isS ib (optP kNOT s)then (negE (isS kNOT s) (opE 16 [a,cQ 2 0 (takP 4 (optP kNOT s).next).1]),(takP 4 (optP kNOT s).next).2)
  else if isS dm (optP kNOT s)then
   (negE (isS kNOT s) (opE 18 [opE 15 [a,(sum (optP kNOT s).next).1],opE 13 [a,(sum (needP kAND (sum (optP kNOT s).next).2)).1]]),(sum (needP kAND (sum (optP kNOT s).next).2)).2)
  else if isS kIN (optP kNOT s)then
   (negE (isS kNOT s) (inP sum a (needP yLp (optP kNOT s).next)).1,needP yRp (inP sum a (needP yLp (optP kNOT s).next)).2)
  else (a,if isS kNOT s then (optP kNOT s).fail else s)
def testP (prim:M Ex):M Ex:=fun s=>cm (sumP prim) (sumP prim s).1 (sumP prim s).2
def notGo (prim:M Ex):Nat→Ps→Ex×Ps
 |0,s=>testP prim s
 |n+1,s=>if isS kNOT s then (opE 20 [(notGo prim n s.next).1],(notGo prim n s.next).2)else testP prim s
def notP (prim:M Ex):M Ex:=fun s=>notGo prim s.r.length s
def fh (prim:M Ex):M Ex:=aL (notP prim) opsAnd
def orP (prim:M Ex):M Ex:=aL (fh prim) opsOr
end
def exprP:Nat→M Ex
 |0=>fun s=> (colE ⟨#[]⟩ ⟨#[]⟩,s)
 |n+1=>orP (aE (exprP n))
def az {α β:Type} (m:M α) (f:α→M β):M β:=fun s=>f (m s).1 (m s).2
def aW {α:Type} (a:α):M α:=fun s=> (a,s)
def aR (t:ByteArray):M Unit:=fun s=> ((),needP t s)
def ifM {α:Type} (t:ByteArray) (m n:M α):M α:=fun s=>if isS t s then m s.next else n s
def gG {α:Type} (ops:List (ByteArray×Int)) (f:Int→M α) (m:M α):M α:=fun s=>
 match (firstP ops s).1 with
 |some o=>f o (firstP ops s).2
 |none=>m s
structure Df where
 cols:List Cd
 keys:List (List ByteArray)
 frs:List Rf
 chk:List Ex
def dN:M (List ByteArray):=az (aR yLp) fun _=>az (listP (takP 1)) fun l=>az (aR yRp) fun _=>aW l
def bndP:M Int:=ifM ct (az bj fun n=>aW (-n)) bj
def bnd2P:M (Int×Int×Int×Int):=az bndP fun a=>az (aR yCm) fun _=>az bndP fun b=>az (aR yRp) fun _=>aW (1,a,b,0)
def maxP:M (Int×Int×Int×Int):=az bj fun n=>az (aR yRp) fun _=>aW (2,0,0,n)
def typP:M (Int×Int×Int×Int):=
 ifM kINTEGER (ifM yLp bnd2P (aW (1,-2147483648,2147483647,0))) (az (aR kTEXT) fun _=>ifM yLp maxP (aW (2,0,0,16)))
def defP:M Cd:=az (takP 1) fun a=>az typP fun t=>ifM kNOT (az (aR kNULL) fun _=>aW ⟨a,t.1,t.2.1,t.2.2.1,t.2.2.2,true⟩) (aW ⟨a,t.1,t.2.1,t.2.2.1,t.2.2.2,false⟩)
def refP:M Rf:=az dN fun a=>az (aR lT) fun _=>az (takP 1) fun t=>az dN fun b=>aW ⟨a,t,b⟩
def stZ:St:=⟨0,⟨#[]⟩,[],[],[],[],[],[],[],[],exZ,[],[],0,⟨#[]⟩⟩
def nnC (l:List ByteArray) (c:Cd):Cd:= { c with nn:=c.nn||l.contains c.nm }
def srcP:M Src:=az (takP 1) fun t=>ifM kAS (az (takP 1) fun a=>aW ⟨t,a⟩) (aW ⟨t,⟨#[]⟩⟩)
def fy (pos:M Int):M Ord':=az pos fun n=>ifM kASC (aW ⟨n,false⟩) (ifM ki (aW ⟨n,true⟩) (aW ⟨n,false⟩))
def grpP:M (List Ex):=ifM jd (az (aR kBY) fun _=>listP cU) (aW [])
def f9 (pos:M Int):M (List Ord'):=ifM je (az (aR kBY) fun _=>listP (fy pos)) (aW [])
def limP (pos:M Int):M Int:=ifM jf pos (aW 0)
def nmP (k:Int):M St:=az (takP 1) fun a=>aW { stZ with kd:=k,nm:=a }
section
variable (ex:M Ex)
def elemP (d:Df) (l:List ByteArray):M (Df×List ByteArray):=
 ifM kPRIMARY (az (aR kKEY) fun _=>az dN fun k=>aW ({ d with keys:=d.keys++ [k] },l++k))
  (ifM kUNIQUE (az dN fun k=>aW ({ d with keys:=d.keys++ [k] },l))
   (ifM kCHECK (az (aR yLp) fun _=>az ex fun e=>az (aR yRp) fun _=>aW ({ d with chk:=d.chk++ [e] },l))
    (ifM kFOREIGN (az (aR kKEY) fun _=>az refP fun f=>aW ({ d with frs:=d.frs++ [f] },l))
     (az defP fun c=>aW ({ d with cols:=d.cols++ [c] },l)))))
def dq:Nat→Df→List ByteArray→M (Df×List ByteArray)
 |0,d,l=>aW (d,l)
 |n+1,d,l=>ifM yCm (az (elemP ex d l) fun x=>dq n x.1 x.2) (aW (d,l))
def gH:M (Df×List ByteArray):=fun s=>az (elemP ex ⟨[],[],[],[]⟩ []) (fun x=>dq ex (s.r.length+1) x.1 x.2) s
def createP:M St:=
 az (aR kTABLE) fun _=>az (takP 1) fun t=>az (aR yLp) fun _=>az (gH ex) fun x=>az (aR yRp) fun _=>
  aW { stZ with kd:=1,tb:=t,cols:=x.1.cols.map (nnC x.2),keys:=x.1.keys,frs:=x.1.frs,chk:=x.1.chk }
def tupP:M (List Ex):=az (aR yLp) fun _=>az (listP ex) fun l=>az (aR yRp) fun _=>aW l
def whrP:M Ex:=ifM dp ex (aW exZ)
def asgP:M Asg:=az (takP 1) fun a=>az (aR yEq) fun _=>az ex fun e=>aW ⟨a,0,e⟩
def iy (o:Int):M Itm:=az ex fun e=>az (aR yRp) fun _=>aW ⟨o,e⟩
def fz:M Itm:=
 gG opsAgg (fun o=>az (aR yLp) fun _=>if o=2 then ifM dT (az (aR yRp) fun _=>aW ⟨1,exZ⟩) (iy ex o)else iy ex o) (az ex fun e=>aW ⟨0,e⟩)
def fromGo:Nat→List Src→List Ex→M (List Src×List Ex)
 |0,l,c=>aW (l,c)
 |n+1,l,c=>ifM yCm (az srcP fun x=>fromGo n (l++ [x]) c) (ifM fl (az srcP fun x=>az (aR kON) fun _=>az ex fun e=>fromGo n (l++ [x]) (c++ [e])) (aW (l,c)))
def fromP:M (List Src×List Ex):=fun s=>az srcP (fun x=>fromGo ex (s.r.length+1) [x] []) s
def andL:List Ex→Ex
 | []=>exZ
 |e::l=>l.foldl (fun a b=>opE 18 [a,b]) e
def et (conj:List Ex→Ex) (c:List Ex):M Ex:=ifM dp (az ex fun e=>aW (conj (c++ [e]))) (aW (conj c))
def itmsP:M (List Itm):=ifM dT (aW []) (listP (fz ex))
def queryP (pos:M Int) (conj:List Ex→Ex):M St:=
 az (itmsP ex) fun i=>az (aR kFROM) fun _=>az (fromP ex) fun f=>az (et ex conj f.2) fun w=>az grpP fun g=>az (f9 pos) fun o=>az (limP pos) fun l=>
  aW { stZ with kd:=5,itms:=i,frm:=f.1,whr:=w,grp:=g,ord:=o,lim:=l }
def eJ:M St:=az (aR kINTO) fun _=>az (takP 1) fun t=>az (aR kVALUES) fun _=>az (listP (tupP ex)) fun v=>aW { stZ with kd:=2,tb:=t,vals:=v }
def eK:M St:=az (takP 1) fun t=>az (aR kSET) fun _=>az (listP (asgP ex)) fun v=>az (whrP ex) fun w=>aW { stZ with kd:=3,tb:=t,sets:=v,whr:=w }
def eL:M St:=az (aR kFROM) fun _=>az (takP 1) fun t=>az (whrP ex) fun w=>aW { stZ with kd:=4,tb:=t,whr:=w }
def eu (pos:M Int) (conj:List Ex→Ex) (last:M St):M St:=
 ifM kCREATE (createP ex) (ifM dF (eJ ex) (ifM dG (eK ex) (ifM kQ (eL ex) (ifM iE (queryP ex pos conj)
  (ifM kBEGIN (aW { stZ with kd:=6 }) (ifM kR (aW { stZ with kd:=7 }) (ifM gF (ifM kTO (nmP 10) (aW { stZ with kd:=8 })) (ifM fx (nmP 9) last))))))))
end
def gc:M St:=ifM jc (nmP 11) (fun s=> (stZ,s.fail))
def endP (s:Ps):Ps:=if hasK 0 s then s else s.fail
def gI {α:Type} (m:M α) (l:List Tk):Nat ⊕ α:=
 if (endP (m ⟨l,false⟩).2).bad then .inl (endP (m ⟨l,false⟩).2).hd.pos else .inr (m ⟨l,false⟩).1
def stmP (n:Nat):M St:=eu (exprP n) posP andL gc
end
section
open Lx (Tk)
def Rel {α:Type} (x y:α×Ps):Prop:=x=y∨(x.2=y.2∧x.2.bad=true)
def Sim {α:Type} (m n:M α):Prop:=∀s,Rel (m s) (n s)
def Stk {α:Type} (m:M α):Prop:=∀s,s.bad=true→(m s).2=s
theorem bad_isS {s:Ps} (h:s.bad=true) (t:ByteArray):isS t s=false:=by simp[isS,h]
theorem jg {s:Ps} (h:s.bad=true) (k:Nat):hasK k s=false:=by simp[hasK,h]
theorem lU {s:Ps} (h:s.bad=true):s.fail=s:=by cases s;simp[Ps.fail]at*;exact h
theorem ev {s:Ps} (h:s.bad=true) (t:ByteArray):needP t s=s:=by rw[needP,bad_isS h,if_neg (by simp),lU h]
theorem bad_opt {s:Ps} (h:s.bad=true) (t:ByteArray):optP t s=s:=by rw[optP,bad_isS h,if_neg (by simp)]
theorem iF {s:Ps} (h:s.bad=true) (k:Nat):takP k s=(⟨#[]⟩,s):=by unfold takP;rw[jg h,if_neg (by simp),lU h]
theorem bS (k:Nat):Stk (takP k):=fun s h=>by rw[iF h]
theorem kS:Stk bj:=fun s h=>by unfold bj;rw[iF h]
theorem stk_pos:Stk posP:=fun s h=>by unfold posP;rw[jg h];simp[kS s h]
theorem eM (l:List (ByteArray×Int)):∀s:Ps,s.bad=true→firstP l s=(none,s):=by
 induction l with
 |nil=>intro s _;rfl
 |cons a l ih=>intro s h;rw[firstP,bad_isS h,if_neg (by simp),ih s h]
theorem lV (el:M Ex) (ops:List (ByteArray×Int)):∀(n:Nat) (e:Ex) (s:Ps),s.bad=true→aM el ops n e s=(e,s)
 |0,_,_,_=>rfl
 |n+1,e,s,h=>by rw[aM,eM ops s h]
theorem eN {el:M Ex} (h:Stk el) (ops:List (ByteArray×Int)):Stk (aL el ops):=fun s hb=>by
 unfold aL
 rw[h s hb,lV el ops _ _ _ hb]
theorem nb {α:Type} (el:M α):∀(n:Nat) (o:List α) (s:Ps),s.bad=true→listGo el n o s=(o,s)
 |0,_,_,_=>rfl
 |n+1,o,s,h=>by rw[listGo,bad_isS h,if_neg (by simp)]
theorem bL {α:Type} {el:M α} (h:Stk el):Stk (listP el):=fun s hb=>by
 unfold listP
 rw[h s hb,nb el _ _ _ hb]
theorem kT:Stk cU:=fun s h=>by
 unfold cU
 rw[iF h,bad_isS h,if_neg (by simp)]
theorem stk_una {p:M Ex} (h:Stk p):Stk (cj p):=fun s hb=>by
 unfold cj
 rw[bad_isS hb,if_neg (by simp),h s hb]
theorem stk_pro {p:M Ex} (h:Stk p):Stk (eq p):=eN (stk_una h) _
theorem stk_sum {p:M Ex} (h:Stk p):Stk (sumP p):=eN (stk_pro h) _
theorem lW (sum:M Ex) (a:Ex):Stk (cm sum a):=fun s hb=>by
 unfold cm
 rw[eM _ s hb,bad_isS hb,bad_opt hb]
 simp only[bad_isS hb]
 simp
theorem lX {p:M Ex} (h:Stk p):Stk (testP p):=fun s hb=>by
 unfold testP
 rw[stk_sum h s hb,lW _ _ s hb]
theorem stk_notGo {p:M Ex} (h:Stk p):∀n,Stk (notGo p n)
 |0=>lX h
 |n+1=>fun s hb=>by
  rw[notGo,bad_isS hb,if_neg (by simp)]
  exact lX h s hb
theorem stk_not {p:M Ex} (h:Stk p):Stk (notP p):=fun s hb=>stk_notGo h _ s hb
theorem stk_or {p:M Ex} (h:Stk p):Stk (orP p):=eN (eN (stk_not h) _) _
theorem lY (rec:M Ex):Stk (aE rec):=fun s hb=>by
 unfold aE
 simp only[jg hb,bad_isS hb]
 simpa using kT s hb
theorem lZ:∀n,Stk (exprP n)
 |0=>fun _ _=>rfl
 |n+1=>stk_or (lY _)
theorem ae {α β:Type} {m:M α} {f:α→M β} (h:Stk m) (hf:∀a,Stk (f a)):Stk (az m f):=fun s hb=>by
 unfold az
 rw[h s hb]
 exact hf _ s hb
theorem ah {α:Type} (a:α):Stk (aW a):=fun s _=>rfl
theorem ay (t:ByteArray):Stk (aR t):=fun s hb=>ev hb t
theorem aY {α:Type} (t:ByteArray) (m:M α) {n:M α} (h:Stk n):Stk (ifM t m n):=fun s hb=>by
 unfold ifM
 rw[bad_isS hb,if_neg (by simp)]
 exact h s hb
theorem stk_fst {α:Type} (ops:List (ByteArray×Int)) (f:Int→M α) {m:M α} (h:Stk m):Stk (gG ops f m):=fun s hb=>by
 unfold gG
 rw[eM ops s hb]
 exact h s hb
theorem db:Stk dN:=ae (ay _) fun _=>ae (bL (bS 1)) fun _=>ae (ay _) fun _=>ah _
theorem l8:Stk bndP:=aY _ _ kS
theorem stk_typ:Stk typP:=aY _ _ (ae (ay _) fun _=>aY _ _ (ah _))
theorem stk_def:Stk defP:=ae (bS 1) fun _=>ae stk_typ fun _=>aY _ _ (ah _)
theorem stk_ref:Stk refP:=ae db fun _=>ae (ay _) fun _=>ae (bS 1) fun _=>ae db fun _=>ah _
theorem stk_src:Stk srcP:=ae (bS 1) fun _=>aY _ _ (ah _)
theorem stk_ord {p:M Int} (h:Stk p):Stk (fy p):=ae h fun _=>aY _ _ (aY _ _ (ah _))
theorem iG:Stk grpP:=aY _ _ (ah _)
theorem ew (p:M Int):Stk (f9 p):=aY _ _ (ah _)
theorem eO (p:M Int):Stk (limP p):=aY _ _ (ah _)
theorem stk_elem (ex:M Ex) (d:Df) (l:List ByteArray):Stk (elemP ex d l):=aY _ _ (aY _ _ (aY _ _ (aY _ _ (ae stk_def fun _=>ah _))))
theorem fB (ex:M Ex):∀(n:Nat) (d:Df) (l:List ByteArray),Stk (dq ex n d l)
 |0,_,_=>ah _
 |_+1,_,_=>aY _ _ (ah _)
theorem gJ (ex:M Ex):Stk (gH ex):=fun s hb=>ae (stk_elem ex _ _) (fun x=>fB ex (s.r.length+1) x.1 x.2) s hb
theorem iH {ex:M Ex} (h:Stk ex):Stk (tupP ex):=ae (ay _) fun _=>ae (bL h) fun _=>ae (ay _) fun _=>ah _
theorem gf (ex:M Ex):Stk (whrP ex):=aY _ _ (ah _)
theorem kU {ex:M Ex} (h:Stk ex):Stk (asgP ex):=ae (bS 1) fun _=>ae (ay _) fun _=>ae h fun _=>ah _
theorem ma {ex:M Ex} (h:Stk ex) (o:Int):Stk (iy ex o):=ae h fun _=>ae (ay _) fun _=>ah _
theorem stk_itm {ex:M Ex} (h:Stk ex):Stk (fz ex):=stk_fst _ _ (ae h fun _=>ah _)
theorem cu (ex:M Ex):∀(n:Nat) (l:List Src) (c:List Ex),Stk (fromGo ex n l c)
 |0,_,_=>ah _
 |_+1,_,_=>aY _ _ (aY _ _ (ah _))
theorem mb (ex:M Ex):Stk (fromP ex):=fun s hb=>ae stk_src (fun x=>cu ex (s.r.length+1) [x] []) s hb
theorem jh (ex:M Ex) (k:List Ex→Ex) (c:List Ex):Stk (et ex k c):=aY _ _ (ah _)
section
variable {a b:M Ex} (h:Sim a b) (ha:Stk a) (hb:Stk b)
include h ha hb
end
end
section
open Lx (Tk)
def Fwd {α:Type} (m:M α):Prop:=∀s,(m s).2.r.length≤s.r.length
theorem next_len (s:Ps):s.next.r.length≤s.r.length:=by simp[Ps.next]
theorem bx {t:ByteArray} {s:Ps} (h:isS t s=true):s.bad=false∧∃a l,s.r=a::l∧(a.kind=2∨a.kind=5)∧tkB a=t∧s.next=⟨l,false⟩:=by
 obtain⟨r,b⟩:=s
 cases r with
 |nil=>simp[isS,Ps.hd]at h
 |cons a l=>
  simp only[isS,Ps.hd,List.headD_cons,Bool.and_eq_true,Bool.not_eq_true',Bool.or_eq_true,beq_iff_eq,decide_eq_true_eq]at h
  exact⟨h.1,a,l,rfl,h.2.1,of_decide_eq_true h.2.2,by simp[Ps.next,h.1]⟩
theorem aP {t:ByteArray} {s:Ps} (h:isS t s=true):s.next.r.length+1=s.r.length:=by
 obtain⟨_,a,l,h1,_,_,h2⟩:=bx h
 rw[h1,h2]
 simp
theorem gK {k:Nat} (hk:k≠0) {s:Ps} (h:hasK k s=true):s.bad=false∧∃a l,s.r=a::l∧a.kind=k∧s.next=⟨l,false⟩:=by
 obtain⟨r,b⟩:=s
 cases r with
 |nil=>simp[hasK,Ps.hd]at h;omega
 |cons a l=>
  simp only[hasK,Ps.hd,List.headD_cons,Bool.and_eq_true,Bool.not_eq_true',beq_iff_eq]at h
  exact⟨h.1,a,l,rfl,h.2,by simp[Ps.next,h.1]⟩
theorem fwd_tak (k:Nat):Fwd (takP k):=fun s=>by
 unfold takP
 split
 ·exact next_len s
 ·exact Nat.le_refl _
theorem aO (t:ByteArray) (s:Ps):(needP t s).r.length≤s.r.length:=by
 unfold needP
 split
 ·exact next_len s
 ·exact Nat.le_refl _
theorem opt_len (t:ByteArray) (s:Ps):(optP t s).r.length≤s.r.length:=by
 unfold optP
 split
 ·exact next_len s
 ·exact Nat.le_refl _
theorem kV:Fwd bj:=fun s=>fwd_tak 3 s
theorem fwd_pos:Fwd posP:=fun s=>by
 unfold posP
 split
 ·exact kV s.fail
 ·exact kV s
theorem eP (l:List (ByteArray×Int)):∀s:Ps,(firstP l s).2.r.length≤s.r.length∧((firstP l s).1.isSome=true→(firstP l s).2.r.length+1=s.r.length):=by
 induction l with
 |nil=>intro s;exact⟨Nat.le_refl _,fun h=>by simp[firstP]at h⟩
 |cons a l ih=>
  intro s
  rw[firstP]
  split
  ·next h=>exact⟨next_len s,fun _=>aP h⟩
  ·exact ih s
theorem fC {l:List (ByteArray×Int)} {s:Ps} {o:Int} (h:(firstP l s).1=some o):(firstP l s).2.r.length+1=s.r.length:=(eP l s).2 (by rw[h];rfl)
theorem ji:∀(l:List (ByteArray×Int)) (s:Ps),(firstP l s).1=none→(firstP l s).2=s
 | [],_,_=>rfl
 |(t,o)::l,s,h=>by
  rw[firstP]at h ⊢
  split at h
  ·cases h
  ·next h2=>rw[if_neg h2];exact ji l s h
theorem ic {el:M Ex} (h:Fwd el) (ops:List (ByteArray×Int)):∀(n:Nat) (e:Ex),Fwd (aM el ops n e)
 |0,_=>fun _=>Nat.le_refl _
 |n+1,e=>fun s=>by
  rw[aM]
  split
  ·exact Nat.le_refl _
  ·exact Nat.le_trans (ic h ops n _ _) (Nat.le_trans (h _) (eP ops s).1)
theorem dd {el:M Ex} (h:Fwd el) (ops:List (ByteArray×Int)):Fwd (aL el ops):=fun s=>Nat.le_trans (ic h ops _ _ _) (h s)
theorem jj {α:Type} {el:M α} (h:Fwd el):∀(n:Nat) (o:List α),Fwd (listGo el n o)
 |0,_=>fun _=>Nat.le_refl _
 |n+1,o=>fun s=>by
  rw[listGo]
  split
  ·exact Nat.le_trans (jj h n _ _) (Nat.le_trans (h _) (next_len s))
  ·exact Nat.le_refl _
theorem jk {α:Type} {el:M α} (h:Fwd el):Fwd (listP el):=fun s=>Nat.le_trans (jj h _ _ _) (h s)
theorem cF {α β:Type} {m:M α} {f:α→M β} (h:Fwd m) (hf:∀a,Fwd (f a)):Fwd (az m f):=fun s=>Nat.le_trans (hf _ _) (h s)
theorem cV {α:Type} (a:α):Fwd (aW a):=fun _=>Nat.le_refl _
theorem gg (t:ByteArray):Fwd (aR t):=fun s=>aO t s
theorem kW {α:Type} (t:ByteArray) {m n:M α} (h1:Fwd m) (h2:Fwd n):Fwd (ifM t m n):=fun s=>by
 unfold ifM
 split
 ·exact Nat.le_trans (h1 _) (next_len s)
 ·exact h2 s
theorem fwd_fst {α:Type} (ops:List (ByteArray×Int)) {f:Int→M α} {m:M α} (h1:∀o,Fwd (f o)) (h2:Fwd m):Fwd (gG ops f m):=fun s=>by
 unfold gG
 split
 ·exact Nat.le_trans (h1 _ _) (eP ops s).1
 ·exact h2 s
theorem iI:Fwd cU:=fun s=>by
 unfold cU
 split
 ·exact Nat.le_trans (fwd_tak 1 _) (Nat.le_trans (next_len _) (fwd_tak 1 s))
 ·exact fwd_tak 1 s
theorem gh {p:M Ex} (h:Fwd p):Fwd (cj p):=fun s=>by
 unfold cj
 split
 ·exact Nat.le_trans (h _) (next_len s)
 ·exact h s
theorem ed {p:M Ex} (h:Fwd p):Fwd (sumP p):=dd (dd (gh h) _) _
theorem mc {p:M Ex} (h:Fwd p) (a:Ex):∀(n:Nat) (e:Ex),Fwd (fg p a n e)
 |0,_=>fun _=>Nat.le_refl _
 |n+1,e=>fun s=>by
  rw[fg]
  split
  ·exact Nat.le_trans (mc h a n _ _) (Nat.le_trans (h _) (next_len s))
  ·exact Nat.le_refl _
theorem fwd_tail {p:M Ex} (h:Fwd p) (a:Ex):Fwd (cm p a):=fun s=>by
 have k:(optP kNOT s).next.r.length≤s.r.length:=Nat.le_trans (next_len _) (opt_len _ _)
 unfold cm
 split
 ·exact Nat.le_trans (h _) (eP _ s).1
 split
 ·exact Nat.le_trans (aO _ _) (Nat.le_trans (opt_len _ _) (next_len s))
 split
 ·exact Nat.le_trans (fwd_tak 4 _) k
 split
 ·exact Nat.le_trans (h _) (Nat.le_trans (aO _ _) (Nat.le_trans (h _) k))
 split
 ·exact Nat.le_trans (aO _ _) (Nat.le_trans (mc h _ _ _ _) (Nat.le_trans (h _) (Nat.le_trans (aO _ _) k)))
 ·simp only
  split
  ·exact opt_len _ _
  ·exact Nat.le_refl _
theorem jm {p:M Ex} (h:Fwd p):Fwd (testP p):=fun s=>Nat.le_trans (fwd_tail (ed h) _ _) (ed h s)
theorem eQ {p:M Ex} (h:Fwd p):∀n,Fwd (notGo p n)
 |0=>jm h
 |n+1=>fun s=>by
  rw[notGo]
  split
  ·exact Nat.le_trans (eQ h n _) (next_len s)
  ·exact jm h s
theorem iJ {p:M Ex} (h:Fwd p):Fwd (fh p):=dd (fun s=>eQ h _ s) _
theorem fwd_or {p:M Ex} (h:Fwd p):Fwd (orP p):=dd (iJ h) _
theorem dU {p:M Ex} (h:Fwd p):Fwd (aE p):=fun s=>by
 unfold aE
 split
 ·exact kV s
 split
 ·exact fwd_tak 4 s
 split
 ·exact next_len s
 split
 ·exact Nat.le_trans (aO _ _) (Nat.le_trans (h _) (Nat.le_trans (aO _ _) (next_len s)))
 split
 ·exact Nat.le_trans (aO _ _) (Nat.le_trans (h _) (next_len s))
 ·exact iI s
theorem dr:∀n,Fwd (exprP n)
 |0=>fun _=>Nat.le_refl _
 |n+1=>fwd_or (dU (dr n))
def Nz (m:M Ex):Prop:=∀s,(m s).1.d.op≠0
theorem eR:∀(l:List (ByteArray×Int)) (s:Ps) (o:Int),(firstP l s).1=some o→∃t,(t,o)∈l
 | [],_,_,h=>by simp[firstP]at h
 |(t,k)::l,s,o,h=>by
  rw[firstP]at h
  split at h
  ·simp at h;subst h;exact⟨t,List.mem_cons_self ..⟩
  ·obtain⟨u,hu⟩:=eR l s o h
   exact⟨u,List.mem_cons_of_mem _ hu⟩
section
variable {a b:M Ex} (h:Sim a b) (ha:Stk a) (hb:Stk b) (hz:Nz b)
include h ha hb hz
end
def kj (stm:M St) (vld:St→Int):Nat→List St→Ps→(Nat×Int) ⊕ List St
 |0,out,_=> .inr out
 |n+1,out,s=>
  if s.hd.kind=0 then .inr out
  else if (needP f7 (stm s).2).bad=true then .inl ((needP f7 (stm s).2).hd.pos,2)
  else if vld (stm s).1≠0 then .inl (s.hd.pos,vld (stm s).1)
  else kj stm vld n (out++ [(stm s).1]) (needP f7 (stm s).2)
end
section
open Lx (Tk)
structure Kp (f:Tk→Tk):Prop where
 kd:∀a,(f a).kind=a.kind
 tx:∀a,(f a).text=a.text
def Ps.mp (f:Tk→Tk) (s:Ps):Ps:=⟨s.r.map f,s.bad⟩
def Sfx (s t:Ps):Prop:=∃A,s.r=A++t.r∧∀a∈A,a.kind≠0
theorem Sfx.refl (s:Ps):Sfx s s:=⟨[],rfl,by simp⟩
theorem Sfx.trans {a b c:Ps} (h:Sfx a b) (k:Sfx b c):Sfx a c:=by
 obtain⟨A,h1,h2⟩:=h
 obtain⟨B,k1,k2⟩:=k
 exact⟨A++B,by rw[h1,k1,List.append_assoc],fun a ha=> (List.mem_append.1 ha).elim (h2 a) (k2 a)⟩
theorem Sfx.next {t:ByteArray} {s:Ps} (h:isS t s=true):Sfx s s.next:=by
 obtain⟨_,a,l,h1,h2,_,h3⟩:=bx h
 exact⟨[a],by rw[h1,h3];rfl,fun b hb=>by rw[List.mem_singleton.1 hb];omega⟩
theorem Sfx.nextk {k:Nat} (hk:k≠0) {s:Ps} (h:hasK k s=true):Sfx s s.next:=by
 obtain⟨_,a,l,h1,h2,h3⟩:=gK hk h
 exact⟨[a],by rw[h1,h3];rfl,fun b hb=>by rw[List.mem_singleton.1 hb];omega⟩
theorem Sfx.fail (s:Ps):Sfx s s.fail:=Sfx.refl s
theorem sfx_need (t:ByteArray) (s:Ps):Sfx s (needP t s):=by
 unfold needP
 split
 ·next h=>exact Sfx.next h
 ·exact Sfx.fail s
theorem sfx_opt (t:ByteArray) (s:Ps):Sfx s (optP t s):=by
 unfold optP
 split
 ·next h=>exact Sfx.next h
 ·exact Sfx.refl s
section
variable {f:Tk→Tk} (hf:Kp f)
include hf
theorem dt (t:ByteArray) (s:Ps):isS t (s.mp f)=isS t s:=by
 unfold isS Ps.mp Ps.hd tkB
 cases s.r with
 |nil=>rfl
 |cons a l=>simp[hf.kd,hf.tx]
theorem kX (k:Nat) (s:Ps):hasK k (s.mp f)=hasK k s:=by
 unfold hasK Ps.mp Ps.hd
 cases s.r with
 |nil=>rfl
 |cons a l=>simp[hf.kd]
theorem mp_hd (s:Ps):tkB (s.mp f).hd=tkB s.hd:=by
 unfold Ps.mp Ps.hd tkB
 cases s.r with
 |nil=>rfl
 |cons a l=>simp[hf.tx]
omit hf in
theorem bT (s:Ps):(s.mp f).next=s.next.mp f:=by simp[Ps.mp,Ps.next]
omit hf in
theorem mp_fail (s:Ps):(s.mp f).fail=s.fail.mp f:=rfl
omit hf in
theorem gL (s:Ps):(s.mp f).r.length=s.r.length:=by simp[Ps.mp]
theorem mp_need (t:ByteArray) (s:Ps):needP t (s.mp f)=(needP t s).mp f:=by
 unfold needP
 rw[dt hf]
 split
 ·exact bT s
 ·rfl
theorem mp_opt (t:ByteArray) (s:Ps):optP t (s.mp f)=(optP t s).mp f:=by
 unfold optP
 rw[dt hf]
 split
 ·exact bT s
 ·rfl
theorem gi:∀(l:List (ByteArray×Int)) (s:Ps),firstP l (s.mp f)=((firstP l s).1,(firstP l s).2.mp f)
 | [],_=>rfl
 |(t,o)::l,s=>by
  rw[firstP,firstP,dt hf]
  split
  ·rw[bT]
  ·exact gi l s
end
theorem eS:∀(l:List (ByteArray×Int)) (s:Ps),Sfx s (firstP l s).2
 | [],s=>Sfx.refl s
 |(t,o)::l,s=>by
  rw[firstP]
  split
  ·next h=>exact Sfx.next h
  ·exact eS l s
structure Rdy {α:Type} (m:M α):Prop where
 sfx:∀s,Sfx s (m s).2
 mp:∀ {f:Tk→Tk},Kp f→∀s:Ps,m (s.mp f)=((m s).1,(m s).2.mp f)
theorem rdy_tak {k:Nat} (hk:k≠0):Rdy (takP k):=⟨fun s=>by
 unfold takP
 split
 ·next h=>exact Sfx.nextk hk h
 ·exact Sfx.fail s,fun hf s=>by
 unfold takP
 rw[kX hf,mp_hd hf,bT,mp_fail]
 split<;>rfl⟩
theorem rdy_num:Rdy bj:=⟨fun s=> (rdy_tak (by omega)).sfx s,fun hf s=>by unfold bj;rw[(rdy_tak (by omega)).mp hf]⟩
theorem kY:Rdy posP:=⟨fun s=>by
 unfold posP
 split
 ·exact rdy_num.sfx s.fail
 ·exact rdy_num.sfx s,fun hf s=>by
 unfold posP
 rw[kX hf,mp_hd hf]
 split
 ·exact rdy_num.mp hf s.fail
 ·exact rdy_num.mp hf s⟩
theorem dH {el:M Ex} (h:Rdy el) (ops:List (ByteArray×Int)):∀(n:Nat) (e:Ex),Rdy (aM el ops n e)
 |0,_=>⟨fun s=>Sfx.refl s,fun _ _=>rfl⟩
 |n+1,e=>⟨fun s=>by
  rw[aM]
  split
  ·exact Sfx.refl s
  ·exact(eS ops s).trans ((h.sfx _).trans ((dH h ops n _).sfx _)),fun hf s=>by
  rw[aM,aM,gi hf]
  cases (firstP ops s).1 with
  |none=>rfl
  |some o=>
   simp only
   rw[h.mp hf]
   exact(dH h ops n _).mp hf _⟩
theorem eT {el:M Ex} (h:Rdy el) (ops:List (ByteArray×Int)):Rdy (aL el ops):=⟨fun s=> (h.sfx s).trans ((dH h ops _ _).sfx _),fun hf s=>by
 unfold aL
 rw[gL,h.mp hf]
 exact(dH h ops _ _).mp hf _⟩
theorem rdy_listGo {α:Type} {el:M α} (h:Rdy el):∀(n:Nat) (o:List α),Rdy (listGo el n o)
 |0,_=>⟨fun s=>Sfx.refl s,fun _ _=>rfl⟩
 |n+1,o=>⟨fun s=>by
  rw[listGo]
  split
  ·next hc=>exact(Sfx.next hc).trans ((h.sfx _).trans ((rdy_listGo h n _).sfx _))
  ·exact Sfx.refl s,fun hf s=>by
  rw[listGo,listGo,dt hf]
  split
  ·rw[bT,h.mp hf]
   exact(rdy_listGo h n _).mp hf _
  ·rfl⟩
theorem md {α:Type} {el:M α} (h:Rdy el):Rdy (listP el):=⟨fun s=> (h.sfx s).trans ((rdy_listGo h _ _).sfx _),fun hf s=>by
 unfold listP
 rw[gL,h.mp hf]
 exact(rdy_listGo h _ _).mp hf _⟩
theorem aF {α β:Type} {m:M α} {f:α→M β} (h:Rdy m) (k:∀a,Rdy (f a)):Rdy (az m f):=⟨fun s=> (h.sfx s).trans ((k _).sfx _),fun hf s=>by
 unfold az
 rw[h.mp hf]
 exact(k _).mp hf _⟩
theorem aQ {α:Type} (a:α):Rdy (aW a):=⟨fun s=>Sfx.refl s,fun _ _=>rfl⟩
theorem bz (t:ByteArray):Rdy (aR t):=⟨fun s=>sfx_need t s,fun hf s=>by unfold aR;rw[mp_need hf]⟩
theorem bM {α:Type} (t:ByteArray) {m n:M α} (h1:Rdy m) (h2:Rdy n):Rdy (ifM t m n):=⟨fun s=>by
 unfold ifM
 split
 ·next hc=>exact(Sfx.next hc).trans (h1.sfx _)
 ·exact h2.sfx s,fun hf s=>by
 unfold ifM
 rw[dt hf]
 split
 ·rw[bT];exact h1.mp hf _
 ·exact h2.mp hf _⟩
theorem rdy_fst {α:Type} (ops:List (ByteArray×Int)) {f:Int→M α} {m:M α} (h1:∀o,Rdy (f o)) (h2:Rdy m):Rdy (gG ops f m):=⟨fun s=>by
 unfold gG
 split
 ·exact(eS ops s).trans ((h1 _).sfx _)
 ·exact h2.sfx s,fun hf s=>by
 unfold gG
 rw[gi hf]
 cases (firstP ops s).1 with
 |none=>exact h2.mp hf _
 |some o=>exact(h1 o).mp hf _⟩
theorem rdy_col:Rdy cU:=⟨fun s=>by
 have h1:=(rdy_tak (k:=1) (by omega)).sfx
 unfold cU
 split
 ·next hc=>exact(h1 s).trans ((Sfx.next hc).trans (h1 _))
 ·exact h1 s,fun hf s=>by
 have h1:=fun s=> (rdy_tak (k:=1) (by omega)).mp hf s
 unfold cU
 rw[h1,dt hf]
 split
 ·rw[bT,h1]
 ·rfl⟩
section
variable {p:M Ex} (h:Rdy p)
include h
theorem rdy_una:Rdy (cj p):=⟨fun s=>by
 unfold cj
 split
 ·next hc=>exact(Sfx.next hc).trans (h.sfx _)
 ·exact h.sfx s,fun hf s=>by
 unfold cj
 rw[dt hf]
 split
 ·rw[bT,h.mp hf]
 ·exact h.mp hf s⟩
theorem iK:Rdy (sumP p):=eT (eT (rdy_una h) _) _
theorem rdy_inGo (a:Ex):∀(n:Nat) (e:Ex),Rdy (fg p a n e)
 |0,_=>⟨fun s=>Sfx.refl s,fun _ _=>rfl⟩
 |n+1,e=>⟨fun s=>by
  rw[fg]
  split
  ·next hc=>exact(Sfx.next hc).trans ((h.sfx _).trans ((rdy_inGo a n _).sfx _))
  ·exact Sfx.refl s,fun hf s=>by
  rw[fg,fg,dt hf]
  split
  ·rw[bT,h.mp hf]
   exact(rdy_inGo a n _).mp hf _
  ·rfl⟩
theorem rdy_in (a:Ex):Rdy (inP p a):=⟨fun s=> (h.sfx s).trans ((rdy_inGo h a _ _).sfx _),fun hf s=>by
 unfold inP
 rw[gL,h.mp hf]
 exact(rdy_inGo h a _ _).mp hf _⟩
theorem me (a:Ex):Rdy (cm p a):=⟨fun s=>by
 unfold cm
 split
 ·exact(eS _ s).trans (h.sfx _)
 split
 ·next hc=>exact(Sfx.next hc).trans ((sfx_opt _ _).trans (sfx_need _ _))
 split
 ·next hc=>exact(sfx_opt _ _).trans ((Sfx.next hc).trans ((rdy_tak (by omega)).sfx _))
 split
 ·next hc=>exact(sfx_opt _ _).trans ((Sfx.next hc).trans ((h.sfx _).trans ((sfx_need _ _).trans (h.sfx _))))
 split
 ·next hc=>exact(sfx_opt _ _).trans ((Sfx.next hc).trans ((sfx_need _ _).trans (((rdy_in h a).sfx _).trans (sfx_need _ _))))
 ·simp only
  split
  ·exact(sfx_opt _ _).trans (Sfx.fail _)
  ·exact Sfx.refl s,fun hf s=>by
 unfold cm
 rw[gi hf]
 cases (firstP opsCmp s).1 with
 |some o=>simp only;rw[h.mp hf]
 |none=>
  have h4:=fun s=> (rdy_tak (k:=4) (by omega)).mp hf s
  simp only[dt hf,mp_opt hf,bT,mp_need hf,h.mp hf,h4,(rdy_in h a).mp hf,mp_fail]
  split
  ·rfl
  split
  ·rfl
  split
  ·rfl
  split
  ·rfl
  split<;>rfl⟩
theorem jn:Rdy (testP p):=⟨fun s=> ((iK h).sfx s).trans ((me (iK h) _).sfx _),fun hf s=>by
 unfold testP
 rw[(iK h).mp hf]
 exact(me (iK h) _).mp hf _⟩
theorem rdy_notGo:∀n,Rdy (notGo p n)
 |0=>jn h
 |n+1=>⟨fun s=>by
  rw[notGo]
  split
  ·next hc=>exact(Sfx.next hc).trans ((rdy_notGo n).sfx _)
  ·exact(jn h).sfx s,fun hf s=>by
  rw[notGo,notGo,dt hf]
  split
  ·rw[bT,(rdy_notGo n).mp hf]
  ·exact(jn h).mp hf s⟩
theorem rdy_not:Rdy (notP p):=⟨fun s=> (rdy_notGo h _).sfx s,fun hf s=>by
 unfold notP
 rw[gL]
 exact(rdy_notGo h _).mp hf s⟩
theorem rdy_or:Rdy (orP p):=eT (eT (rdy_not h) _) _
theorem rdy_prim:Rdy (aE p):=⟨fun s=>by
 unfold aE
 split
 ·exact rdy_num.sfx s
 split
 ·exact(rdy_tak (by omega)).sfx s
 split
 ·next hc=>exact Sfx.next hc
 split
 ·next hc=>exact(Sfx.next hc).trans ((sfx_need _ _).trans ((h.sfx _).trans (sfx_need _ _)))
 split
 ·next hc=>exact(Sfx.next hc).trans ((h.sfx _).trans (sfx_need _ _))
 ·exact rdy_col.sfx s,fun hf s=>by
 have h4:=fun s=> (rdy_tak (k:=4) (by omega)).mp hf s
 unfold aE
 simp only[dt hf,kX hf,bT,mp_need hf,h.mp hf,h4,rdy_num.mp hf,rdy_col.mp hf]
 split
 ·rfl
 split
 ·rfl
 split
 ·rfl
 split
 ·rfl
 split<;>rfl⟩
end
theorem jo:∀n,Rdy (exprP n)
 |0=>⟨fun s=>Sfx.refl s,fun _ _=>rfl⟩
 |n+1=>rdy_or (rdy_prim (jo n))
theorem jp {ex:M Ex} (h:Rdy ex) (d:Df) (l:List ByteArray):Rdy (elemP ex d l):=by
 unfold elemP dN refP defP dN typP bnd2P maxP bndP
 repeat' first
  |exact h
  |exact rdy_tak (by omega)
  |exact rdy_num
  |exact aQ _
  |exact bz _
  |apply md
  |apply bM
  |apply aF
  |intro _
theorem fD {ex:M Ex} (h:Rdy ex):∀(n:Nat) (d:Df) (l:List ByteArray),Rdy (dq ex n d l)
 |0,_,_=>aQ _
 |n+1,d,l=>bM _ (aF (jp h d l) fun x=>fD h n x.1 x.2) (aQ _)
theorem rdy_elems {ex:M Ex} (h:Rdy ex):Rdy (gH ex):=⟨fun s=> (aF (jp h ⟨[],[],[],[]⟩ []) fun x=>fD h (s.r.length+1) x.1 x.2).sfx s,fun hf s=>by
 unfold gH
 rw[gL]
 exact(aF (jp h ⟨[],[],[],[]⟩ []) fun x=>fD h (s.r.length+1) x.1 x.2).mp hf s⟩
theorem iL:Rdy srcP:=by
 unfold srcP
 repeat' first
  |exact rdy_tak (by omega)
  |exact aQ _
  |apply bM
  |apply aF
  |intro _
theorem ee {ex:M Ex} (h:Rdy ex):∀(n:Nat) (l:List Src) (c:List Ex),Rdy (fromGo ex n l c)
 |0,_,_=>aQ _
 |n+1,l,c=>bM _ (aF iL fun x=>ee h n _ _) (bM _ (aF iL fun x=>aF (bz _) fun _=>aF h fun e=>ee h n _ _) (aQ _))
theorem rdy_from {ex:M Ex} (h:Rdy ex):Rdy (fromP ex):=⟨fun s=> (aF iL fun x=>ee h (s.r.length+1) [x] []).sfx s,fun hf s=>by
 unfold fromP
 rw[gL]
 exact(aF iL fun x=>ee h (s.r.length+1) [x] []).mp hf s⟩
theorem rdy_stmt {ex:M Ex} (h:Rdy ex) (k:List Ex→Ex):Rdy (eu ex posP k gc):=by
 have h0:Rdy (fun s:Ps=> (stZ,s.fail)):=⟨fun s=>Sfx.fail s,fun _ _=>rfl⟩
 unfold eu createP eJ eK eL queryP itmsP fz iy et grpP f9 limP tupP asgP whrP nmP gc fy
 repeat' first
  |exact h
  |exact h0
  |exact rdy_tak (by omega)
  |exact rdy_num
  |exact kY
  |exact rdy_col
  |exact aQ _
  |exact bz _
  |exact rdy_elems h
  |exact rdy_from h
  |apply md
  |apply bM
  |apply rdy_fst
  |apply aF
  |split
  |intro _
theorem rdy_stm (n:Nat):Rdy (stmP n):=rdy_stmt (jo n) _
def Ended (s:Ps):Prop:=∃A z,s.r=A++ [z]∧z.kind=0∧∀a∈A,a.kind≠0
theorem Ended.hd {s:Ps} (h:Ended s):s.hd∈s.r:=by
 obtain⟨A,z,h1,_⟩:=h
 unfold Ps.hd
 cases hr:s.r with
 |nil=>rw[hr]at h1;simp at h1
 |cons a l=>simp
end
section
open Lx (Tk isDigit isLetter inWord spanN isPrint)
def parS (vld:St→Int) (s:ByteArray):St×Int×Int:=
 match Lx.tokAll s with
 | .bad a e=> (stZ,(a:Int),(e:Int))
 | .ok L=>
  match gI (stmP (L.length+1)) L with
  | .inl a=> (stZ,(a:Int),2)
  | .inr x=>if vld x=0 then (x,0,0)else (stZ,((⟨L,false⟩:Ps).hd.pos:Int),vld x)
def parE (vld:Ex→Int) (s:ByteArray):Ex×Int×Int:=
 match Lx.tokAll s with
 | .bad a e=> (exZ,(a:Int),(e:Int))
 | .ok L=>
  match gI (exprP (L.length+1)) L with
  | .inl a=> (exZ,(a:Int),2)
  | .inr x=>if vld x=0 then (x,0,0)else (exZ,((⟨L,false⟩:Ps).hd.pos:Int),vld x)
end
end Go.Proofs.YtjigcpfjhfoheaaGreatDoor
