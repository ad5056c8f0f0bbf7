/- TxtU GE GH GZ HB HC HD HF PSources40: FabricSources holds for every case and all numbers: the row. -/
import Derived.Test.YtdmkfgkmnpohlaaGreatPart06
import Derived.Test.YtdmkfgkmnpohlaaGreatChecked
import Derived.Test.YtdmkfgkmnpohlaaGreatPart14
import Derived.Test.YtdmkfgkmnpohlaaGreatPart09
import Derived.Test.YtdmkfgkmnpohlaaGreatPart15
import Derived.Test.YtdmkfgkmnpohlaaGreatRows
set_option linter.unusedSimpArgs false
set_option linter.unusedVariables false
open Nat (reduceEqDiff reduceAdd reduceSub reduceMul reduceLT reduceLeDiff)
open Int (reduceToNat reduceNeg)
namespace Go.Proofs.YtdmkfgkmnpohlaaGreat.Txt
open Go Go.Vc
set_option maxRecDepth 100000
def ac29_1000_r14:AC:=
 (.seq (.seq (.reg [1000,76,1000,1001,1005,1008] [
 (aO 1070 (.mv (.t 1008))),(aO 1071 (.ld false 1 (.t 1005))),(aO 1072 (.clm 31 [(.t 1070),(.t 1071)]))])
 (.cond (.t 1072)
 (.seq (.reg [1000,76] [
 (aO 1007 (.mv (.c (.sc (.bool true)))))])
 .ret)
 .skip))
 (.seq (.reg [1000,76,1000,1001] [
 (aO 1073 (.ld false 1 (.t 1001))),(aO 1074 (.mv (.t 1000))),(aO 1075 (.ixs 1 (.t 1073) (.t 1074))),(aN (.sto 1 (.t 1075) (kI 2)))])
 (.seq (.reg [1000,76] [
 (aO 1007 (.mv (.c (.sc (.bool false)))))])
 .ret)))
def ac29_1000:AC:=
 (.seq (.reg [1000,76,1000,1001,1002,1003,1004,1005] [
 (aO 1007 (.mv (.c (.sc (.bool false)))))])
 (.seq (.seq (.reg [1000,76,1000,1001,1002,1003,1004,1005] [
 (aO 1012 (.ld false 1 (.t 1001))),(aO 1013 (.mv (.t 1000))),(aO 1014 (.ixs 1 (.t 1012) (.t 1013))),(aO 1015 (.ld false 1 (.t 1014))),(aO 1016 (.cmp .neq .i64 (.t 1015) (kI 0)))])
 (.cond (.t 1016)
 (.seq (.reg [1000,76,1000,1001] [
 (aO 1017 (.ld false 1 (.t 1001))),(aO 1018 (.mv (.t 1000))),(aO 1019 (.ixs 1 (.t 1017) (.t 1018))),(aO 1020 (.ld false 1 (.t 1019))),(aO 1021 (.cmp .eql .i64 (.t 1020) (kI 1))),(aO 1007 (.mv (.t 1021)))])
 .ret)
 .skip))
 (.seq (.reg [1000,76,1000,1001,1002,1003,1004,1005] [
 (aO 1022 (.ld false 1 (.t 1001))),(aO 1023 (.mv (.t 1000))),(aO 1024 (.ixs 1 (.t 1022) (.t 1023))),(aN (.sto 1 (.t 1024) (kI 1)))])
 (.seq (.reg [1000,76,1000,1001,1002,1003,1004,1005] [
 (aO 1008 (.mv (.c (.nil))))])
 (.seq (.seq (.reg [1000,76,1000,1001,1002,1003,1004,1005,1008] [
 (aO 1026 (.ld false 1 (.t 1002))),(aO 1027 (.nck (.t 1026))),(aO 1028 (.fa 5 (.t 1027))),(aO 1029 (.ld false 1 (.t 1028))),(aO 1030 (.mv (.t 1000))),(aO 1031 (.cal 30 [(.t 1029),(.t 1030)])),(aO 1025 (.mv (.t 1031))),(aO 1032 (.ext (.t 1025) 0)),(aO 1033 (.ext (.t 1025) 1)),(aO 1009 (.mv (.t 1032))),(aO 1010 (.mv (.t 1033)))])
 (.seq (.reg [1000,76,1000,1001,1002,1003,1004,1005,1008,1009,1010] [
 (aO 1034 (.mv (.t 1010)))])
 (.cond (.t 1034)
 (.seq (.reg [1000,76,1000,1001,1003,1004,1005,1008,1009] [
 (aO 1035 (.fa 1 (.t 1004))),(aO 1036 (.ld false 1 (.t 1035))),(aO 1037 (.mv (.t 1009))),(aO 1038 (.ixs 1 (.t 1036) (.t 1037))),(aO 1039 (.ld false 1 (.t 1038))),(aO 1040 (.ixa 4 3 (.t 1003) (.t 1039))),(aO 1041 (.fa 2 (.t 1040))),(aO 1042 (.ld false 1 (.t 1041))),(aO 1043 (.mv (kI 0)))])
 (.block 0
 (.loop [1000,76,1000,1001,1005,1008,1042,1043]
 (.seq (.reg [1000,76,1000,1001,1005,1008,1042,1043] [
 (aO 1044 (.cmp .lss .i64 (.t 1043) (.t 1042)))])
 (.seq (.cond (.t 1044)
 .skip
 (.exit 0))
 (.seq (.block 1
 (.seq (.reg [1000,76,1000,1001,1005,1008,1042,1043] [
 (aO 1045 (.mv (.t 1043))),(aO 1011 (.mv (.t 1045)))])
 (.reg [1000,76,1000,1001,1005,1008,1011,1042,1043] [
 (aO 1046 (.mv (.t 1008))),(aO 1047 (.mv (.t 1000))),(aO 1048 (.ari .add true .i64 (.t 1047) (kI 2))),(aO 1049 (.mv (.t 1011))),(aO 1050 (.ari .add true .i64 (.t 1048) (.t 1049))),(aO 1051 (.bsl 1 3 [zI] 1 [(0,(.t 1050))])),(aO 1052 (.app 1 3 8 (.t 1046) (.t 1051))),(aO 1008 (.mv (.t 1052)))])))
 (.reg [1000,76,1000,1001,1005,1008,1042,1043] [
 (aO 1053 (.ari .add true .i64 (.t 1043) (kI 1))),(aO 1043 (.mv (.t 1053)))])))))))
 (.seq (.reg [1000,76,1000,1001,1002,1005,1008] [
 (aO 1054 (.ld false 1 (.t 1002))),(aO 1055 (.nck (.t 1054))),(aO 1056 (.fa 6 (.t 1055))),(aO 1057 (.ld false 1 (.t 1056))),(aO 1058 (.mv (.t 1000))),(aO 1059 (.ixs 1 (.t 1057) (.t 1058))),(aO 1060 (.ld false 1 (.t 1059))),(aO 1061 (.cmp .geq .i64 (.t 1060) (kI 0)))])
 (.cond (.t 1061)
 (.reg [1000,76,1000,1001,1002,1005] [
 (aO 1062 (.ld false 1 (.t 1002))),(aO 1063 (.nck (.t 1062))),(aO 1064 (.fa 6 (.t 1063))),(aO 1065 (.ld false 1 (.t 1064))),(aO 1066 (.mv (.t 1000))),(aO 1067 (.ixs 1 (.t 1065) (.t 1066))),(aO 1068 (.ld false 1 (.t 1067))),(aO 1069 (.bsl 1 3 [zI] 1 [(0,(.t 1068))])),(aO 1008 (.mv (.t 1069)))])
 .skip)))))
 (.frz [1008] (.wk ac29_1000_r14)))))))
def rv29_1000:List RV:=[.tmp 1007]
theorem ok29_1000:qh0 Tryz.prog 1000 ac29_1000 rv29_1000 Tryz.f29=true:=by kernel_rfl

def ac31_1100:AC:=
 (.seq (.reg [1100,9,1100,1101] [
 (aO 1104 (.mv (.c (.sc (.bool false)))))])
 (.seq (.reg [1100,9,1100,1101] [
 (aO 1105 (.mv (.t 1100))),(aO 1106 (.mv (.t 1101))),(aO 1107 (.clm 59 [(.t 1105),(.t 1106)])),(aO 1108 (.cmp .geq .i64 (.t 1107) (kI 0))),(aO 1104 (.mv (.t 1108)))])
 .ret))
def rv31_1100:List RV:=[.tmp 1104]
theorem ok31_1100:qh0 Tryz.prog 1100 ac31_1100 rv31_1100 Tryz.f31=true:=by kernel_rfl

def ac59_1200:AC:=
 (.seq (.reg [1200,19,1200,1201] [
 (aO 1204 (.mv (kI 0)))])
 (.seq (.seq (.reg [1200,19,1200,1201] [
 (aO 1206 (.mv (.t 1200))),(aO 1207 (.len (.t 1206))),(aO 1208 (.mv (kI 0)))])
 (.block 0
 (.loop [1200,19,1200,1201,1207,1208]
 (.seq (.reg [1200,19,1200,1201,1207,1208] [
 (aO 1209 (.cmp .lss .i64 (.t 1208) (.t 1207)))])
 (.seq (.cond (.t 1209)
 .skip
 (.exit 0))
 (.seq (.block 1
 (.seq (.reg [1200,19,1200,1201,1207,1208] [
 (aO 1210 (.mv (.t 1208))),(aO 1205 (.mv (.t 1210)))])
 (.seq (.reg [1200,19,1200,1201,1205,1207,1208] [
 (aO 1211 (.mv (.t 1201))),(aO 1212 (.mv (.t 1200))),(aO 1213 (.mv (.t 1205))),(aO 1214 (.ixs 1 (.t 1212) (.t 1213))),(aO 1215 (.ld false 1 (.t 1214))),(aO 1216 (.clv (.t 1211) [(.t 1215)]))])
 (.cond (.t 1216)
 (.seq (.reg [1200,19,1205] [
 (aO 1217 (.mv (.t 1205))),(aO 1204 (.mv (.t 1217)))])
 .ret)
 .skip))))
 (.reg [1200,19,1200,1201,1207,1208] [
 (aO 1218 (.ari .add true .i64 (.t 1208) (kI 1))),(aO 1208 (.mv (.t 1218)))])))))))
 (.seq (.reg [1200,19] [
 (aO 1204 (.mv (kI (-1))))])
 .ret)))
def rv59_1200:List RV:=[.tmp 1204]
theorem ok59_1200:qh0 Tryz.prog 1200 ac59_1200 rv59_1200 Tryz.f59=true:=by kernel_rfl

def ac10:AC:=
 (.seq (.reg [0,33,0,1] [
 (aO 2 (.box (.t 0))),(aO 3 (.box (.t 1))),(aO 4 (.mv (.c (.sc (.bool false)))))])
 (.seq (.reg [0,33,2,3] [
 (aO 10 (.ld true 5 (.t 2))),(aO 11 (.ld true 4 (.t 3))),(aO 12 (.clm 27 [(.t 10),(.t 11)])),(aO 13 (.cal 28 [])),(aO 5 (.alc [.sc (.pointer none)])),(aO 6 (.alc [.sc .nilFunc,.sc .nilFunc,zI,.sc .nilFunc,.sc .nilFunc,zI,.sc .nilFunc,.sc .nilFunc,zI,.sc .nilFunc,.sc .nilFunc,zI])),(aN (.sto 1 (.t 5) (.t 12))),(aN (.sto 12 (.t 6) (.t 13)))])
 (.seq (.reg [0,33,3,5,6] [
 (aO 14 (.ld false 1 (.t 5))),(aO 15 (.nck (.t 14))),(aO 16 (.fa 4 (.t 15))),(aO 17 (.ld false 1 (.t 16))),(aO 18 (.len (.t 17))),(aO 19 (.mks 1 3 8 [zI] (.t 18) (.t 18))),(aO 7 (.alc [.nil])),(aN (.sto 1 (.t 7) (.t 19)))])
 (.seq (.reg [0,33,3,5,6,7] [
 (aO 8 (.alc [.sc .nilFunc]))])
 (.seq (.reg [0,33,3,5,6,7,8] [
 (aO 20 (.mkf 29 [(.t 7),(.t 5),(.t 6),(.t 3),(.t 8)])),(aN (.sto 1 (.t 8) (.t 20)))])
 (.seq (.seq (.reg [0,33,5,8] [
 (aO 21 (.ld false 1 (.t 5))),(aO 22 (.nck (.t 21))),(aO 23 (.fa 4 (.t 22))),(aO 24 (.ld false 1 (.t 23))),(aO 25 (.len (.t 24))),(aO 26 (.mv (kI 0)))])
 (.block 0
 (.loop [0,33,8,25,26]
 (.seq (.reg [0,33,8,25,26] [
 (aO 27 (.cmp .lss .i64 (.t 26) (.t 25)))])
 (.seq (.cond (.t 27)
 .skip
 (.exit 0))
 (.seq (.block 1
 (.seq (.reg [0,33,8,25,26] [
 (aO 28 (.mv (.t 26))),(aO 9 (.mv (.t 28)))])
 (.seq (.reg [0,33,8,9,25,26] [
 (aO 29 (.ld false 1 (.t 8))),(aO 30 (.mv (.t 9))),(aO 31 (.clv (.t 29) [(.t 30)]))])
 (.cond (.t 31)
 (.seq (.reg [0,33] [
 (aO 4 (.mv (.c (.sc (.bool true)))))])
 .ret)
 .skip))))
 (.reg [0,33,8,25,26] [
 (aO 32 (.ari .add true .i64 (.t 26) (kI 1))),(aO 26 (.mv (.t 32)))])))))))
 (.seq (.reg [0,33] [
 (aO 4 (.mv (.c (.sc (.bool false)))))])
 .ret)))))))
def rv10:List RV:=[.tmp 4]
theorem ok10:fnOk Tryz.prog ac10 rv10 Tryz.f10=true:=by kernel_rfl
end Go.Proofs.YtdmkfgkmnpohlaaGreat.Txt
namespace Go.Proofs.YtdmkfgkmnpohlaaGreat
open Go Go.Vc Txt
theorem qG2(st:List Int)(i:Nat){v:Int}(hv:v≠0):qxO (st.set i v)<=qxO st:=by
 by_cases h:i<st.length
 ·have:=qxP h v
  rw[if_neg hv]at this
  split at this<;>omega
 ·rw[List.set_eq_of_length_le (by omega)]
  omega
theorem qG3(dep:Nat->List Nat): ∀(k:Nat) (st:List Int) (i:Nat),qxO (dfs dep k st i).2<=qxO st
 |0,_,_=>Nat.le_refl _
 | k + 1, st, i => by
   have hL: ∀(js:List Nat) (s:List Int),qxO (dfsL (dfs dep k) s js).2<=qxO s:=by
    intro js
    induction js with
    |nil=>intro s;exact Nat.le_refl _
    |cons j js ih=>
      intro s
      have h1:=qG3 dep k s j
      rw[dfsL]
      split
      ·exact h1
      ·exact Nat.le_trans (ih _) h1
   have h2:=qG2 st i (v:=1) (by decide)
   have h3:=hL (dep i) (st.set i 1)
   rw[dfs]
   split
   ·exact Nat.le_refl _
   ·split
    ·exact Nat.le_trans h3 h2
    ·exact Nat.le_trans (qG2 _ i (by decide)) (Nat.le_trans h3 h2)
def PSL:List (Nat×PV):=[(1,.ptr 7 0),(2,.ptr 5 0),(3,.ptr 6 0),(4,.ptr 3 0),(5,.ptr 8 0)]
@[push_cast] theorem qG4:PSL=[(1,.ptr 7 0),(2,.ptr 5 0),(3,.ptr 6 0),(4,.ptr 3 0),(5,.ptr 8 0)]:=rfl
def argL:List PV:=[.ptr 7 0,.ptr 5 0,.ptr 6 0,.ptr 3 0,.ptr 8 0]
@[push_cast] theorem qG5:argL=[.ptr 7 0,.ptr 5 0,.ptr 6 0,.ptr 3 0,.ptr 8 0]:=rfl
def BXL(g:Grid)(c:Cfg):List (Nat×List PV):=[(3,cfgC false c),(5,[.ptr 313 0]),(6,qxg),(7,[.view 19 0 c.sel.length]),(8,[.clo 29 [7,5,6,3,8]]),(313,opV c (.view 335 0 c.sel.length) (.view 348 0 g.kind.length) (.view 367 0 c.sel.length))]
@[push_cast] theorem qG6(g:Grid)(c:Cfg):BXL g c=[(3,cfgC false c),(5,[.ptr 313 0]),(6,qxg),(7,[.view 19 0 c.sel.length]),(8,[.clo 29 [7,5,6,3,8]]),(313,opV c (.view 335 0 c.sel.length) (.view 348 0 g.kind.length) (.view 367 0 c.sel.length))]:=rfl
def ARL(g:Grid)(c:Cfg)(st:List Int):List (Nat×Arr):=(19,⟨1,3,ints st⟩)::opA g c c.sel.length
@[push_cast] theorem qG7(g:Grid)(c:Cfg)(st:List Int):ARL g c st=(19,⟨1,3,ints st⟩)::opA g c c.sel.length:=rfl
def RecL(g:Grid)(c:Cfg)(k:Nat):Prop:= ∀(i:Nat) (st:List Int) (ls:List (Nat×List (List PV))),st.length=c.sel.length->i<c.sel.length->qxO st<=k->
 FnM (Env.of Tryz.prog) 29 (.int i::argL) ⟨(0,stkC ls)::PSL,BXL g c,ARL g c st,[]⟩
  (fun r st' =>r= .bool (dfs (depF g c) k st i).1/\st' =⟨(0,stkC ls)::PSL,BXL g c,ARL g c (dfs (depF g c) k st i).2,[]⟩)
set_option maxHeartbeats 4000000 in
theorem qG8 (g : Grid) (c : Cfg) (k i : Nat) (hrec : RecL g c k) (ls : List (Nat × List (List PV))) (js : List Nat) (hjs : ∀ j ∈ js, j < c.sel.length) (hjl : js.length <= 4) (st : List Int) (hst : st.length = c.sel.length) (hz : qxO st <= k) :
  FnM (Env.of Tryz.prog) 59 [.sl false 1 (ints (natI js)),.clo 29 [7,5,6,3,8]] ⟨(0,stkC ls)::PSL++[(1000,.int i),(1001,.ptr 7 0)],BXL g c,ARL g c st,[]⟩
   (fun r st' => ∃x:Int,r= .int x/\(0<=x ↔ (dfsL (dfs (depF g c) k) st js).1=true)/\st' =⟨(0,stkC ls)::PSL++[(1000,.int i),(1001,.ptr 7 0)],BXL g c,ARL g c (dfsL (dfs (depF g c) k) st js).2,[]⟩):=by
 have e0: ∀(l:List Int) (j:Nat),l.getD j default=l.getD j 0:=fun _ _=>rfl
 have hnl:(natI js).length=js.length:=by simp[natI]
 simp only[List.cons_append,List.nil_append,push_cast,reduceIte,reduceEqDiff,reduceAdd,reduceSub,reduceMul,Nat.reduceBEq,reduceLT,reduceLeDiff,reduceCtorEq,reduceToNat,reduceNeg]
 refine qtT 1200 Tryz.func59 ok59_1200 (by show 2<=_;decide) rfl (by show 0<=1200;decide) ?_
 simp only[ac59_1200,rv59_1200,push_cast,reduceIte,reduceEqDiff,reduceAdd,reduceSub,reduceMul,Nat.reduceBEq,reduceLT,reduceLeDiff,reduceCtorEq,reduceToNat,reduceNeg]
 refine qoH (fun m s=> ∃(q:Nat) (st1:List Int),q<=js.length/\m=js.length-q/\st1.length=c.sel.length/\qxO st1<=k/\dfsL (dfs (depF g c) k) st js=dfsL (dfs (depF g c) k) st1 (js.drop q)/\
  s=⟨(0,stkC ls)::PSL++[(1000,.int i),(1001,.ptr 7 0),(1200,.sl false 1 (ints (natI js))),(1201,.clo 29 [7,5,6,3,8]),(1207,.int js.length),(1208,.int q)],BXL g c,ARL g c st1,[]⟩) js.length ?_ ?_
 ·refine⟨0,st,by omega,by omega,hst,hz,rfl,?_⟩
  simp only[hnl,List.cons_append,List.nil_append,push_cast,reduceIte,reduceEqDiff,reduceAdd,reduceSub,reduceMul,Nat.reduceBEq,reduceLT,reduceLeDiff,reduceCtorEq,reduceToNat,reduceNeg]
  try rfl
 rintro m s ⟨q,st1,hq,rfl,hl1,hz1,hd,rfl⟩
 simp only[List.cons_append,List.nil_append,e0,push_cast,reduceIte,reduceEqDiff,reduceAdd,reduceSub,reduceMul,Nat.reduceBEq,reduceLT,reduceLeDiff,reduceCtorEq,reduceToNat,reduceNeg]
 refine qnR (fun h=> ?_) fun h=> ?_
 ·have hq' :q<js.length:=by omega
  have hdr:js.drop q=js[q]::js.drop (q+1):=List.drop_eq_getElem_cons hq'
  have hjq:=hjs js[q] (List.getElem_mem hq')
  have hg:(natI js).getD q 0=(js[q]:Int):=by
   rw[List.getD_eq_getElem?_getD,natI,List.getElem?_map,List.getElem?_eq_getElem hq'];rfl
  rw[hdr,dfsL]at hd
  have hdl:=qxL (depF g c) k st1 js[q]
  have hdz:=qG3 (depF g c) k st1 js[q]
  rw[hg]
  generalize js[q]=j at *
  refine⟨by omega,by omega,?_⟩
  refine qst (v:= .bool (dfs (depF g c) k st1 j).1) (st1:=⟨[(0,stkC ls),(1,.ptr 7 0),(2,.ptr 5 0),(3,.ptr 6 0),(4,.ptr 3 0),(5,.ptr 8 0),(1000,.int i),(1001,.ptr 7 0),(1200,.sl false 1 (ints (natI js))),(1201,.clo 29 [7,5,6,3,8]),(1205,.int q),(1207,.int js.length),(1208,.int q)],BXL g c,ARL g c (dfs (depF g c) k st1 j).2,[]⟩)
   (FnM.stkf PSL [(0,stkC ls),(1,.ptr 7 0),(2,.ptr 5 0),(3,.ptr 6 0),(4,.ptr 3 0),(5,.ptr 8 0),(1000,.int i),(1001,.ptr 7 0),(1200,.sl false 1 (ints (natI js))),(1201,.clo 29 [7,5,6,3,8]),(1205,.int q),(1207,.int js.length),(1208,.int q)] ls (1,ints (natI js)) 1200 rfl rfl rfl rfl rfl ?_ (FnM.mono (hrec j st1 ((1,ints (natI js))::ls) hl1 hjq hz1) ?_)) ?_
  ·refine sB ?_
   exact⟨.inl trivial,.inr (.inr trivial),.inr (.inr trivial),.inr (.inr trivial),.inr (.inr trivial),.inr (.inr trivial),.inr (.inr trivial),.inr (.inr trivial),.inr (.inl trivial),.inr (.inr trivial)⟩
  ·rintro r st' ⟨rfl,rfl⟩
   exact⟨_,_,_,rfl,⟨rfl,rfl⟩⟩
  refine sB ?_
  refine qnQ (fun e=> ?_) fun e=> ?_
  ·rw[if_pos e]at hd
   rw[hd]
   exact⟨q,rfl,⟨fun _=>rfl,fun _=>by omega⟩,rfl⟩
  ·rw[if_neg (by rw[e];decide)]at hd
   exact⟨by omega,_,by omega,q+1,_,by omega,rfl,by omega,by omega,hd,rfl⟩
 ·have hqe:q=js.length:=by omega
  rw[hqe,List.drop_length,dfsL]at hd
  rw[hd]
  exact⟨-1,rfl,by simp,rfl⟩
set_option maxHeartbeats 4000000 in
theorem qG9 (g : Grid) (c : Cfg) (k i : Nat) (hrec : RecL g c k) (ls : List (Nat × List (List PV))) (js : List Nat) (hjs : ∀ j ∈ js, j < c.sel.length) (hjl : js.length <= 4) (st : List Int) (hst : st.length = c.sel.length) (hz : qxO st <= k) :
  FnM (Env.of Tryz.prog) 31 [.sl false 1 (ints (natI js)),.clo 29 [7,5,6,3,8]] ⟨(0,stkC ls)::PSL++[(1000,.int i),(1001,.ptr 7 0)],BXL g c,ARL g c st,[]⟩
   (fun r st' =>r= .bool (dfsL (dfs (depF g c) k) st js).1/\st' =⟨(0,stkC ls)::PSL++[(1000,.int i),(1001,.ptr 7 0)],BXL g c,ARL g c (dfsL (dfs (depF g c) k) st js).2,[]⟩):=by
 have hI:=qG8 g c k i hrec ls js hjs hjl st hst hz
 simp only[List.cons_append,List.nil_append,push_cast,reduceIte,reduceEqDiff,reduceAdd,reduceSub,reduceMul,Nat.reduceBEq,reduceLT,reduceLeDiff,reduceCtorEq,reduceToNat,reduceNeg]at hI ⊢
 refine qtT 1100 Tryz.func31 ok31_1100 (by show 2<=_;decide) rfl (by show 0<=1100;decide) ?_
 simp only[ac31_1100,rv31_1100,push_cast,reduceIte,reduceEqDiff,reduceAdd,reduceSub,reduceMul,Nat.reduceBEq,reduceLT,reduceLeDiff,reduceCtorEq,reduceToNat,reduceNeg]
 refine qss (Q:=fun r st' => ∃x:Int,r= .int x/\(0<=x ↔ (dfsL (dfs (depF g c) k) st js).1=true)/\st' =⟨(0,stkC ls)::PSL++[(1000,.int i),(1001,.ptr 7 0)],BXL g c,ARL g c (dfsL (dfs (depF g c) k) st js).2,[]⟩)
  (FnM.only [0,1,2,3,4,5,1000,1001] [3,5,6,7,8,313] [19,335,348,367] [] ?_) ?_
 ·simp only[List.cons_append,List.nil_append,push_cast,reduceIte,reduceEqDiff,reduceAdd,reduceSub,reduceMul,Nat.reduceBEq,reduceLT,reduceLeDiff,reduceCtorEq,reduceToNat,reduceNeg]
  exact hI
 rintro r st' ⟨x,rfl,hx,rfl⟩
 simp only[List.cons_append,List.nil_append,push_cast,reduceIte,reduceEqDiff,reduceAdd,reduceSub,reduceMul,Nat.reduceBEq,reduceLT,reduceLeDiff,reduceCtorEq,reduceToNat,reduceNeg]
 rw[show decide (0<=x)=(dfsL (dfs (depF g c) k) st js).1 by rw[Bool.eq_iff_iff,decide_eq_true_eq,hx]]
theorem qGa(t:Nat): ∀m:Nat,(List.range m).countP (fun k=>decide (k<t))=min m t
 |0=>by simp
 | m + 1 => by
   rw[List.range_succ,List.countP_append,qGa t m,List.countP_cons,List.countP_nil]
   by_cases h:m<t
   ·simp[h];omega
   ·simp[h];omega
theorem qGb{g:Grid}(hg:GOk g){n:Nat}(hn:n=(quD g).toNat){i:Nat}(hi:i<n)(h1:(quJ g i).kind=1):(qCt g n).countP (fun y=>decide (y<(i:Int)))=i/qC4 g:=by
 have hE:=qC8 hg
 obtain⟨k1,k2⟩:=(qCf hg i).1 h1
 have ht:=qCe hg k1
 have hi2:i=i/qC4 g*qC4 g:=by have:=Nat.div_add_mod i (qC4 g);rw[k2,Nat.mul_comm]at this;omega
 rw[hn,qCw hg,List.countP_map]
 have e:((fun y:Int=>decide (y<(i:Int))) ∘ fun k:Nat=>((k*qC4 g:Nat):Int))=fun k=>decide (k<i/qC4 g):=by
  funext k
  have:(((k*qC4 g:Nat):Int)<(i:Int)) ↔ k<i/qC4 g:=by
   rw[Int.ofNat_lt]
   constructor
   ·intro h
    exact Nat.lt_of_mul_lt_mul_right (a:=qC4 g) (by omega)
   ·intro h
    have:=Nat.mul_lt_mul_of_pos_right h (k:=qC4 g) (by omega)
    omega
  simp only[Function.comp,this]
 rw[e,qGa]
 omega
theorem qGc{g:Grid}(hg:GOk g){n:Nat}(hn:n=(quD g).toNat):(qCt g n).Pairwise (· <= ·):=by
 rw[hn,qCw hg,List.pairwise_map]
 exact List.pairwise_lt_range.imp fun h=>by
  have:=Nat.mul_le_mul_right (qC4 g) (Nat.le_of_lt h)
  omega
theorem qGd{g:Grid}{n i:Nat}(hi:i<n):(qCt g n).contains (i:Int)=decide ((quJ g i).kind=1):=by
 rw[Bool.eq_iff_iff,List.contains_iff_mem,qCt,qA0,decide_eq_true_eq]
 constructor
 ·rintro⟨j,hj,hp,e⟩
  have:i=j:=by omega
  subst this
  exact of_decide_eq_true hp
 ·exact fun h=>⟨i,hi,decide_eq_true h,rfl⟩
set_option maxHeartbeats 4000000 in
theorem qGe (g : Grid) (c : Cfg) (k i : Nat) (hrec : RecL g c k) (ls : List (Nat × List (List PV))) (js : List Nat) (hjs : ∀ j ∈ js, j < c.sel.length) (hjl : js.length <= 4) (st : List Int) (hst : st.length = c.sel.length) (hz : qxO st <= k) (hi : i < c.sel.length) (st0 : St)
  (hst0:st0.keepS [1000,76,1000,1001,1005,1008]=⟨(0,stkC ls)::PSL++[(1000,.int i),(1001,.ptr 7 0),(1005,.ptr 8 0),(1008,.sl false 1 (ints (natI js)))],BXL g c,ARL g c st,[]⟩):
  awp (Env.of Tryz.prog) ac29_1000_r14 (retM 1000 rv29_1000 fun r st' =>r= .bool (dfsL (dfs (depF g c) k) st js).1/\st' =⟨(0,stkC ls)::PSL,BXL g c,ARL g c (if(dfsL (dfs (depF g c) k) st js).1=true then(dfsL (dfs (depF g c) k) st js).2 else(dfsL (dfs (depF g c) k) st js).2.set i 2),[]⟩)
   st0:=by
 have hI:=qG9 g c k i hrec ls js hjs hjl st hst hz
 have hl:=qxM (depF g c) k js st
 generalize dfsL (dfs (depF g c) k) st js=z at *
 obtain⟨z1,z2⟩:=z
 show opsK _ _ (St.keepS st0 [1000,76,1000,1001,1005,1008]) _
 rw[hst0]
 simp only[rv29_1000,List.cons_append,List.nil_append,push_cast,reduceIte,reduceEqDiff,reduceAdd,reduceSub,reduceMul,Nat.reduceBEq,reduceLT,reduceLeDiff,reduceCtorEq,reduceToNat,reduceNeg]at hI ⊢
 refine qss (Q:=fun r st' =>r= .bool z1/\st' =⟨(0,stkC ls)::PSL++[(1000,.int i),(1001,.ptr 7 0)],BXL g c,ARL g c z2,[]⟩)
  (FnM.only [0,1,2,3,4,5,1000,1001] [3,5,6,7,8,313] [19,335,348,367] [] ?_) ?_
 ·simp only[List.cons_append,List.nil_append,push_cast,reduceIte,reduceEqDiff,reduceAdd,reduceSub,reduceMul,Nat.reduceBEq,reduceLT,reduceLeDiff,reduceCtorEq,reduceToNat,reduceNeg]
  exact hI
 rintro r st' ⟨rfl,rfl⟩
 simp only[List.cons_append,List.nil_append,push_cast,reduceIte,reduceEqDiff,reduceAdd,reduceSub,reduceMul,Nat.reduceBEq,reduceLT,reduceLeDiff,reduceCtorEq,reduceToNat,reduceNeg]
 refine qnQ (fun e=> ?_) fun e=> ?_
 ·subst e
  exact⟨rfl,rfl⟩
 ·subst e
  exact⟨by omega,by rw[show z2.length=st.length from hl];omega,rfl,rfl⟩
theorem qGf{st:List Int}{i:Nat}(hi:i<st.length)(h:qxO st<=0):st.getD i 0≠0:=fun e=>by have:=qxQ hi e;omega
def nxS(g:Grid)(c:Cfg)(ls:List (Nat×List (List PV)))(st:List Int)(i u:Nat):Nat->St
 |0=>⟨(0,stkC ls)::PSL++[(1000,.int i),(1001,.ptr 7 0),(1005,.ptr 8 0),(1008,.nil),(1042,.int u),(1043,.int 0)],BXL g c,ARL g c st,[]⟩
 |j+1=>⟨(0,stkC ls)::PSL++[(1000,.int i),(1001,.ptr 7 0),(1005,.ptr 8 0),(1008,.view 1052 0 (j+1)),(1042,.int u),(1043,.int (j+1:Nat))],BXL g c,ARL g c st++[(1052,⟨1,3,ints (natI ((List.range (j+1)).map fun q=>i+2+q))⟩)],[]⟩
theorem qGg(i j:Nat):natI ((List.range (j+1)).map fun q=>i+2+q)=natI ((List.range j).map fun q=>i+2+q)++[(i:Int)+2+j]:=by
 rw[List.range_succ,List.map_append,natI,natI,List.map_append]
 rfl
set_option maxHeartbeats 8000000 in
theorem qGh(g:Grid)(hg:GOk g)(c:Cfg)(hc:CfgG g c): ∀k,RecL g c k:=by
 intro k
 induction k with
 |zero=>
   intro i st ls hst hi hz
   have e0: ∀(l:List Int) (j:Nat),l.getD j default=l.getD j 0:=fun _ _=>rfl
   have hne:=qGf (st:=st) (i:=i) (by omega) hz
   simp only[argL,push_cast,reduceIte,reduceEqDiff,reduceAdd,reduceSub,reduceMul,Nat.reduceBEq,reduceLT,reduceLeDiff,reduceCtorEq,reduceToNat,reduceNeg]
   refine qtT 1000 Tryz.func29 ok29_1000 (by show 6<=_;decide) rfl (by show 0<=1000;decide) ?_
   simp only[ac29_1000,rv29_1000,e0,push_cast,reduceIte,reduceEqDiff,reduceAdd,reduceSub,reduceMul,Nat.reduceBEq,reduceLT,reduceLeDiff,reduceCtorEq,reduceToNat,reduceNeg]
   refine⟨by omega,by omega,?_⟩
   refine qnR (fun h=> ?_) fun h=>absurd hne h
   exact⟨by omega,by omega,rfl,rfl⟩
 |succ k ih=>
   intro i st ls hst hi hz
   have e0: ∀(l:List Int) (j:Nat),l.getD j default=l.getD j 0:=fun _ _=>rfl
   simp only[argL,push_cast,reduceIte,reduceEqDiff,reduceAdd,reduceSub,reduceMul,Nat.reduceBEq,reduceLT,reduceLeDiff,reduceCtorEq,reduceToNat,reduceNeg]
   refine qtT 1000 Tryz.func29 ok29_1000 (by show 6<=_;decide) rfl (by show 0<=1000;decide) ?_
   simp only[ac29_1000,rv29_1000,e0,push_cast,reduceIte,reduceEqDiff,reduceAdd,reduceSub,reduceMul,Nat.reduceBEq,reduceLT,reduceLeDiff,reduceCtorEq,reduceToNat,reduceNeg]
   refine⟨by omega,by omega,?_⟩
   have hrg:=(qCj hg hc ⟨[],[]⟩ []).rng i hi
   have hcn:=hg.count
   have l1:=hc.ln.1
   have hfl:=qD7 hg hc
   have hwh:=hg.wh
   have hkd:=hg.kind
   have hE:=qC8 hg
   have hsrt:(qCt g c.sel.length).Pairwise (· <= ·):=qGc hg l1
   have hB:=qwz (qCt g c.sel.length) (i:Int) hsrt (by omega)
   rw[qGd hi]at hB
   have hcnt:=fun h1=>qGb hg l1 hi h1
   have hz1:=qxP (st:=st) (i:=i) (by omega) 1
   have hdn:(depF g c i).length<=4:=by
    unfold depF
    split
    ·split
     ·simp
     ·split<;>simp
    ·split<;>simp
   have hT:=qGe g c k i ih ls (depF g c i) hrg hdn (st.set i 1) (by rw[List.length_set];omega)
   refine qnR (fun h=> ?_) fun h=> ?_
   ·rw[dfs,if_pos h]
    exact⟨by omega,by omega,rfl,rfl⟩
   ·have h0:st.getD i 0=0:=Classical.byContradiction h
    have he1:(dfs (depF g c) (k+1) st i).1=(dfsL (dfs (depF g c) k) (st.set i 1) (depF g c i)).1:=by
     rw[dfs,if_neg h]
     split<;>simp_all
    have he2:(dfs (depF g c) (k+1) st i).2=if(dfsL (dfs (depF g c) k) (st.set i 1) (depF g c i)).1=true then(dfsL (dfs (depF g c) k) (st.set i 1) (depF g c i)).2 else(dfsL (dfs (depF g c) k) (st.set i 1) (depF g c i)).2.set i 2:=by
     rw[dfs,if_neg h]
     split<;>rfl
    rw[he1,he2]
    rw[if_pos h0,if_neg (by decide)]at hz1
    have hT:=fun st0=>hT (by omega) hi st0
    refine⟨by omega,by omega,?_⟩
    rw[List.take_of_length_le (by omega)]
    refine qrm hB sC ?_
    refine sB ?_
    refine qnR (fun h1=> ?_) fun h1=> ?_
    ·rw[hcnt h1]
     have ht:=qCe hg ((qCf hg i).1 h1).1
     have hdp:depF g c i=if c.mode.getD (i/qC4 g) 0=1\/c.mode.getD (i/qC4 g) 0=2 then[i+2,i+3,i+4,i+5]else if c.mode.getD (i/qC4 g) 0=3 then[i+2,i+3,i+4]else[]:=if_pos h1
     have hmd:=(hc.tile _ ht).1
     obtain⟨l1,l2,l3,l4⟩:=hc.ln
     generalize i/qC4 g=t at *
     simp only[e0,push_cast,reduceIte,reduceEqDiff,reduceAdd,reduceSub,reduceMul,Nat.reduceBEq,reduceLT,reduceLeDiff,reduceCtorEq,reduceToNat,reduceNeg]
     refine⟨by omega,by omega,by omega,by omega,?_⟩
     have hmc:c.mode.getD t 0=0\/c.mode.getD t 0=1\/c.mode.getD t 0=2\/c.mode.getD t 0=3:=by omega
     rcases hmc with e|e|e|e
     ·have hd:depF g c i=[]:=by rw[hdp,if_neg (by omega),if_neg (by omega)]
      simp only[e,push_cast,reduceIte,reduceEqDiff,reduceAdd,reduceSub,reduceMul,Nat.reduceBEq,reduceLT,reduceLeDiff,reduceCtorEq,reduceToNat,reduceNeg]
      refine qoH (fun m st' => ∃j:Nat,j<=0/\m=0-j/\st' =nxS g c ls (st.set i 1) i 0 j) 0 ?_ ?_
      ·refine⟨0,by omega,by omega,?_⟩
       simp only[nxS,List.cons_append,List.nil_append,push_cast,reduceIte,reduceEqDiff,reduceAdd,reduceSub,reduceMul,Nat.reduceBEq,reduceLT,reduceLeDiff,reduceCtorEq,reduceToNat,reduceNeg]
       try rfl
      rintro m st' ⟨j,hj,rfl,rfl⟩
      cases j with
      |zero=>
        simp only[nxS,quY,List.cons_append,List.nil_append,push_cast,reduceIte,reduceEqDiff,reduceAdd,reduceSub,reduceMul,Nat.reduceBEq,reduceLT,reduceLeDiff,reduceCtorEq,reduceToNat,reduceNeg]
        refine qnR (fun h3=>absurd h3 (by omega)) fun _=> ?_
        refine qr1 ⟨[(0,stkC ls),(1,.ptr 7 0),(2,.ptr 5 0),(3,.ptr 6 0),(4,.ptr 3 0),(5,.ptr 8 0),(1000,.int i),(1001,.ptr 7 0),(1005,.ptr 8 0),(1008,.sl false 1 (ints (natI (depF g c i)))),(1042,.bot),(1043,.bot),(1044,.bot)],BXL g c,ARL g c (st.set i 1),[]⟩ ?_ (hT _ (by simp only[PSL,BXL,ARL,List.cons_append,List.nil_append,push_cast,reduceIte,reduceEqDiff,reduceAdd,reduceSub,reduceMul,Nat.reduceBEq,reduceLT,reduceLeDiff,reduceCtorEq,reduceToNat,reduceNeg]))
        rw[hd]
        simp only[PSL,BXL,ARL,natI,List.map_nil,List.cons_append,List.nil_append,push_cast,reduceIte,reduceEqDiff,reduceAdd,reduceSub,reduceMul,Nat.reduceBEq,reduceLT,reduceLeDiff,reduceCtorEq,reduceToNat,reduceNeg]
        done
      |succ j=>exact absurd hj (by omega)
     ·have hd:depF g c i=[i+2,i+3,i+4,i+5]:=by rw[hdp,if_pos (by omega)]
      simp only[e,push_cast,reduceIte,reduceEqDiff,reduceAdd,reduceSub,reduceMul,Nat.reduceBEq,reduceLT,reduceLeDiff,reduceCtorEq,reduceToNat,reduceNeg]
      refine qoH (fun m st' => ∃j:Nat,j<=4/\m=4-j/\st' =nxS g c ls (st.set i 1) i 4 j) 4 ?_ ?_
      ·refine⟨0,by omega,by omega,?_⟩
       simp only[nxS,List.cons_append,List.nil_append,push_cast,reduceIte,reduceEqDiff,reduceAdd,reduceSub,reduceMul,Nat.reduceBEq,reduceLT,reduceLeDiff,reduceCtorEq,reduceToNat,reduceNeg]
       try rfl
      rintro m st' ⟨j,hj,rfl,rfl⟩
      cases j with
      |zero=>
        simp only[nxS,quY,List.cons_append,List.nil_append,push_cast,reduceIte,reduceEqDiff,reduceAdd,reduceSub,reduceMul,Nat.reduceBEq,reduceLT,reduceLeDiff,reduceCtorEq,reduceToNat,reduceNeg]
        refine qnR (fun _=> ?_) fun h3=>absurd (by omega) h3
        refine⟨by omega,by omega,by simp,by omega,_,?_,0+1,by omega,rfl,?_⟩
        ·omega
        ·rw[show(i:Int)+2+0=((i+2:Nat):Int)by omega]
         rfl
      |succ j=>
        have hnl:(natI ((List.range (j+1)).map fun q=>i+2+q)).length=j+1:=by simp[natI]
        have hns:=qGg i (j+1)
        simp only[nxS,hnl,List.cons_append,List.nil_append,push_cast,reduceIte,reduceEqDiff,reduceAdd,reduceSub,reduceMul,Nat.reduceBEq,reduceLT,reduceLeDiff,reduceCtorEq,reduceToNat,reduceNeg]
        refine qnR (fun h3=> ?_) fun h3=> ?_
        ·refine⟨by omega,by omega,by simp,by omega,by omega,_,?_,j+1+1,by omega,rfl,?_⟩
         ·omega
         ·rw[show((j+1:Nat):Int)=(j:Int)+1 from rfl]at hns
          rw[<- hns]
          rfl
        ·have hju:j=3:=by omega
         subst hju
         rw[List.take_of_length_le (by omega)]
         refine qr1 ⟨[(0,stkC ls),(1,.ptr 7 0),(2,.ptr 5 0),(3,.ptr 6 0),(4,.ptr 3 0),(5,.ptr 8 0),(1000,.int i),(1001,.ptr 7 0),(1005,.ptr 8 0),(1008,.sl false 1 (ints (natI (depF g c i)))),(1042,.bot),(1043,.bot),(1044,.bot)],BXL g c,ARL g c (st.set i 1),[]⟩ ?_ (hT _ (by simp only[PSL,BXL,ARL,List.cons_append,List.nil_append,push_cast,reduceIte,reduceEqDiff,reduceAdd,reduceSub,reduceMul,Nat.reduceBEq,reduceLT,reduceLeDiff,reduceCtorEq,reduceToNat,reduceNeg]))
         rw[hd]
         simp only[PSL,BXL,ARL,List.cons_append,List.nil_append,push_cast,reduceIte,reduceEqDiff,reduceAdd,reduceSub,reduceMul,Nat.reduceBEq,reduceLT,reduceLeDiff,reduceCtorEq,reduceToNat,reduceNeg]
         exact slTF _ _
     ·have hd:depF g c i=[i+2,i+3,i+4,i+5]:=by rw[hdp,if_pos (by omega)]
      simp only[e,push_cast,reduceIte,reduceEqDiff,reduceAdd,reduceSub,reduceMul,Nat.reduceBEq,reduceLT,reduceLeDiff,reduceCtorEq,reduceToNat,reduceNeg]
      refine qoH (fun m st' => ∃j:Nat,j<=4/\m=4-j/\st' =nxS g c ls (st.set i 1) i 4 j) 4 ?_ ?_
      ·refine⟨0,by omega,by omega,?_⟩
       simp only[nxS,List.cons_append,List.nil_append,push_cast,reduceIte,reduceEqDiff,reduceAdd,reduceSub,reduceMul,Nat.reduceBEq,reduceLT,reduceLeDiff,reduceCtorEq,reduceToNat,reduceNeg]
       try rfl
      rintro m st' ⟨j,hj,rfl,rfl⟩
      cases j with
      |zero=>
        simp only[nxS,quY,List.cons_append,List.nil_append,push_cast,reduceIte,reduceEqDiff,reduceAdd,reduceSub,reduceMul,Nat.reduceBEq,reduceLT,reduceLeDiff,reduceCtorEq,reduceToNat,reduceNeg]
        refine qnR (fun _=> ?_) fun h3=>absurd (by omega) h3
        refine⟨by omega,by omega,by simp,by omega,_,?_,0+1,by omega,rfl,?_⟩
        ·omega
        ·rw[show(i:Int)+2+0=((i+2:Nat):Int)by omega]
         rfl
      |succ j=>
        have hnl:(natI ((List.range (j+1)).map fun q=>i+2+q)).length=j+1:=by simp[natI]
        have hns:=qGg i (j+1)
        simp only[nxS,hnl,List.cons_append,List.nil_append,push_cast,reduceIte,reduceEqDiff,reduceAdd,reduceSub,reduceMul,Nat.reduceBEq,reduceLT,reduceLeDiff,reduceCtorEq,reduceToNat,reduceNeg]
        refine qnR (fun h3=> ?_) fun h3=> ?_
        ·refine⟨by omega,by omega,by simp,by omega,by omega,_,?_,j+1+1,by omega,rfl,?_⟩
         ·omega
         ·rw[show((j+1:Nat):Int)=(j:Int)+1 from rfl]at hns
          rw[<- hns]
          rfl
        ·have hju:j=3:=by omega
         subst hju
         rw[List.take_of_length_le (by omega)]
         refine qr1 ⟨[(0,stkC ls),(1,.ptr 7 0),(2,.ptr 5 0),(3,.ptr 6 0),(4,.ptr 3 0),(5,.ptr 8 0),(1000,.int i),(1001,.ptr 7 0),(1005,.ptr 8 0),(1008,.sl false 1 (ints (natI (depF g c i)))),(1042,.bot),(1043,.bot),(1044,.bot)],BXL g c,ARL g c (st.set i 1),[]⟩ ?_ (hT _ (by simp only[PSL,BXL,ARL,List.cons_append,List.nil_append,push_cast,reduceIte,reduceEqDiff,reduceAdd,reduceSub,reduceMul,Nat.reduceBEq,reduceLT,reduceLeDiff,reduceCtorEq,reduceToNat,reduceNeg]))
         rw[hd]
         simp only[PSL,BXL,ARL,List.cons_append,List.nil_append,push_cast,reduceIte,reduceEqDiff,reduceAdd,reduceSub,reduceMul,Nat.reduceBEq,reduceLT,reduceLeDiff,reduceCtorEq,reduceToNat,reduceNeg]
         exact slTF _ _
     ·have hd:depF g c i=[i+2,i+3,i+4]:=by rw[hdp,if_neg (by omega),if_pos e]
      simp only[e,push_cast,reduceIte,reduceEqDiff,reduceAdd,reduceSub,reduceMul,Nat.reduceBEq,reduceLT,reduceLeDiff,reduceCtorEq,reduceToNat,reduceNeg]
      refine qoH (fun m st' => ∃j:Nat,j<=3/\m=3-j/\st' =nxS g c ls (st.set i 1) i 3 j) 3 ?_ ?_
      ·refine⟨0,by omega,by omega,?_⟩
       simp only[nxS,List.cons_append,List.nil_append,push_cast,reduceIte,reduceEqDiff,reduceAdd,reduceSub,reduceMul,Nat.reduceBEq,reduceLT,reduceLeDiff,reduceCtorEq,reduceToNat,reduceNeg]
       try rfl
      rintro m st' ⟨j,hj,rfl,rfl⟩
      cases j with
      |zero=>
        simp only[nxS,quY,List.cons_append,List.nil_append,push_cast,reduceIte,reduceEqDiff,reduceAdd,reduceSub,reduceMul,Nat.reduceBEq,reduceLT,reduceLeDiff,reduceCtorEq,reduceToNat,reduceNeg]
        refine qnR (fun _=> ?_) fun h3=>absurd (by omega) h3
        refine⟨by omega,by omega,by simp,by omega,_,?_,0+1,by omega,rfl,?_⟩
        ·omega
        ·rw[show(i:Int)+2+0=((i+2:Nat):Int)by omega]
         rfl
      |succ j=>
        have hnl:(natI ((List.range (j+1)).map fun q=>i+2+q)).length=j+1:=by simp[natI]
        have hns:=qGg i (j+1)
        simp only[nxS,hnl,List.cons_append,List.nil_append,push_cast,reduceIte,reduceEqDiff,reduceAdd,reduceSub,reduceMul,Nat.reduceBEq,reduceLT,reduceLeDiff,reduceCtorEq,reduceToNat,reduceNeg]
        refine qnR (fun h3=> ?_) fun h3=> ?_
        ·refine⟨by omega,by omega,by simp,by omega,by omega,_,?_,j+1+1,by omega,rfl,?_⟩
         ·omega
         ·rw[show((j+1:Nat):Int)=(j:Int)+1 from rfl]at hns
          rw[<- hns]
          rfl
        ·have hju:j=2:=by omega
         subst hju
         rw[List.take_of_length_le (by omega)]
         refine qr1 ⟨[(0,stkC ls),(1,.ptr 7 0),(2,.ptr 5 0),(3,.ptr 6 0),(4,.ptr 3 0),(5,.ptr 8 0),(1000,.int i),(1001,.ptr 7 0),(1005,.ptr 8 0),(1008,.sl false 1 (ints (natI (depF g c i)))),(1042,.bot),(1043,.bot),(1044,.bot)],BXL g c,ARL g c (st.set i 1),[]⟩ ?_ (hT _ (by simp only[PSL,BXL,ARL,List.cons_append,List.nil_append,push_cast,reduceIte,reduceEqDiff,reduceAdd,reduceSub,reduceMul,Nat.reduceBEq,reduceLT,reduceLeDiff,reduceCtorEq,reduceToNat,reduceNeg]))
         rw[hd]
         simp only[PSL,BXL,ARL,List.cons_append,List.nil_append,push_cast,reduceIte,reduceEqDiff,reduceAdd,reduceSub,reduceMul,Nat.reduceBEq,reduceLT,reduceLeDiff,reduceCtorEq,reduceToNat,reduceNeg]
         exact slTF _ _
    ·have hdp:depF g c i=if 0<=qzD g c i then[(qzD g c i).toNat]else[]:=if_neg h1
     have hdr:(qCs g c c.sel.length).getD i 0=qzD g c i:=qCB hi
     have hdl:=qD6 g c c.sel.length
     simp only[e0,push_cast,reduceIte,reduceEqDiff,reduceAdd,reduceSub,reduceMul,Nat.reduceBEq,reduceLT,reduceLeDiff,reduceCtorEq,reduceToNat,reduceNeg]
     refine⟨by omega,by omega,?_⟩
     simp only[hdr,push_cast,reduceIte,reduceEqDiff,reduceAdd,reduceSub,reduceMul,Nat.reduceBEq,reduceLT,reduceLeDiff,reduceCtorEq,reduceToNat,reduceNeg]
     refine qnR (fun h2=> ?_) fun h2=> ?_
     ·rw[if_pos h2]at hdp
      have e:natI (depF g c i)=[qzD g c i]:=by
       rw[hdp]
       show[(((qzD g c i).toNat:Nat):Int)]=_
       rw[Int.toNat_of_nonneg h2]
      refine⟨by omega,by omega,by simp,?_⟩
      refine qr1 ⟨[(0,stkC ls),(1,.ptr 7 0),(2,.ptr 5 0),(3,.ptr 6 0),(4,.ptr 3 0),(5,.ptr 8 0),(1000,.int i),(1001,.ptr 7 0),(1002,.bot),(1005,.ptr 8 0),(1008,.sl false 1 (ints (natI (depF g c i)))),(1062,.bot),(1063,.bot),(1064,.bot),(1065,.bot),(1066,.bot),(1067,.bot),(1068,.bot),(1069,.bot)],BXL g c,ARL g c (st.set i 1),[]⟩ ?_ (hT _ (by simp only[PSL,BXL,ARL,List.cons_append,List.nil_append,push_cast,reduceIte,reduceEqDiff,reduceAdd,reduceSub,reduceMul,Nat.reduceBEq,reduceLT,reduceLeDiff,reduceCtorEq,reduceToNat,reduceNeg]))
      rw[e]
      simp only[PSL,BXL,ARL,List.cons_append,List.nil_append,push_cast,reduceIte,reduceEqDiff,reduceAdd,reduceSub,reduceMul,Nat.reduceBEq,reduceLT,reduceLeDiff,reduceCtorEq,reduceToNat,reduceNeg]
      done
     ·rw[if_neg h2]at hdp
      refine qr1 ⟨[(0,stkC ls),(1,.ptr 7 0),(2,.ptr 5 0),(3,.ptr 6 0),(4,.ptr 3 0),(5,.ptr 8 0),(1000,.int i),(1001,.ptr 7 0),(1002,.bot),(1005,.ptr 8 0),(1008,.sl false 1 (ints (natI (depF g c i)))),(1054,.bot),(1055,.bot),(1056,.bot),(1057,.bot),(1058,.bot),(1059,.bot),(1060,.bot),(1061,.bot)],BXL g c,ARL g c (st.set i 1),[]⟩ ?_ (hT _ (by simp only[PSL,BXL,ARL,List.cons_append,List.nil_append,push_cast,reduceIte,reduceEqDiff,reduceAdd,reduceSub,reduceMul,Nat.reduceBEq,reduceLT,reduceLeDiff,reduceCtorEq,reduceToNat,reduceNeg]))
      rw[hdp]
      simp only[natI,List.map_nil,List.cons_append,List.nil_append,push_cast,reduceIte,reduceEqDiff,reduceAdd,reduceSub,reduceMul,Nat.reduceBEq,reduceLT,reduceLeDiff,reduceCtorEq,reduceToNat,reduceNeg]
      done
set_option maxHeartbeats 8000000 in
theorem qGi(g:Grid)(hg:GOk g)(c:Cfg)(hc:CfgG g c):FnEq Tryz.prog 10 [.agg (quy false g),.agg (cfgC false c)] (.bool (qxJ (depF g c) c.sel.length)):=by
 have hcn:=hg.count
 have l1:=hc.ln.1
 have hrec:=qGh g hg c hc c.sel.length
 have hO:=qCZ g hg c hc
 refine FnEq.of_awp Tryz.func10 ok10 (by show 2<=_;decide) (by simp only[push_cast,reduceIte,reduceEqDiff,reduceAdd,reduceSub,reduceMul,Nat.reduceBEq,reduceLT,reduceLeDiff,reduceCtorEq,reduceToNat,reduceNeg]<;>first|exact fun _ _=>trivial|simp) ?_
 simp only[ac10,rv10,push_cast,reduceIte,reduceEqDiff,reduceAdd,reduceSub,reduceMul,Nat.reduceBEq,reduceLT,reduceLeDiff,reduceCtorEq,reduceToNat,reduceNeg]
 refine qCR [313] [335,348,367] hO rfl rfl rfl ?_
 simp only[opA,opV,push_cast,reduceIte,reduceEqDiff,reduceAdd,reduceSub,reduceMul,Nat.reduceBEq,reduceLT,reduceLeDiff,reduceCtorEq,reduceToNat,reduceNeg]
 refine qoF qxi ?_
 refine sB ?_
 refine⟨by omega,?_⟩
 have hD:dfsL (dfs (depF g c) c.sel.length) (List.replicate c.sel.length 0) (List.range c.sel.length)=dfsL (dfs (depF g c) c.sel.length) (List.replicate c.sel.length 0) ((List.range c.sel.length).drop 0):=rfl
 have hz0:qxO (List.replicate c.sel.length (0:Int))<=c.sel.length:=by
  have:=List.countP_le_length (p:=(· ==(0:Int))) (l:=List.replicate c.sel.length (0:Int))
  rw[List.length_replicate]at this
  exact this
 refine qoH (fun m s=> ∃(k:Nat) (st:List Int),k<=c.sel.length/\m=c.sel.length-k/\st.length=c.sel.length/\qxO st<=c.sel.length/\(qxJ (depF g c) c.sel.length=(dfsL (dfs (depF g c) c.sel.length) st ((List.range c.sel.length).drop k)).1)/\
  s=⟨[(8,.ptr 8 0),(25,.int c.sel.length),(26,.int k)],BXL g c,ARL g c st,[]⟩) c.sel.length ?_ ?_
 ·refine⟨0,List.replicate c.sel.length 0,by omega,by omega,by simp,hz0,rfl,?_⟩
  simp only[List.length_replicate,push_cast,reduceIte,reduceEqDiff,reduceAdd,reduceSub,reduceMul,Nat.reduceBEq,reduceLT,reduceLeDiff,reduceCtorEq,reduceToNat,reduceNeg]
  done
 rintro m s ⟨k,st,hk,rfl,hl,hz,hd,rfl⟩
 refine sB ?_
 refine qnR (fun h=> ?_) fun h=> ?_
 ·have hkn:k<c.sel.length:=by omega
  have hdr:(List.range c.sel.length).drop k=k::(List.range c.sel.length).drop (k+1):=by
   rw[List.drop_eq_getElem_cons (by simp;omega)]
   simp
  have hzs:=qG3 (depF g c) c.sel.length st k
  have hls:=qxL (depF g c) c.sel.length st k
  rw[hdr,dfsL]at hd
  refine qst (v:= .bool (dfs (depF g c) c.sel.length st k).1) (st1:=⟨[(8,.ptr 8 0),(9,.int k),(25,.int c.sel.length),(26,.int k)],BXL g c,ARL g c (dfs (depF g c) c.sel.length st k).2,[]⟩)
   (FnM.stkf0 PSL [(8,.ptr 8 0),(9,.int k),(25,.int c.sel.length),(26,.int k)] rfl rfl rfl ?_ (FnM.mono (hrec k st [] hl hkn hz) ?_)) ?_
  ·refine sB ?_
   try decide
  ·rintro r st' ⟨rfl,rfl⟩
   exact⟨_,_,_,rfl,⟨rfl,rfl⟩⟩
  refine sB ?_
  refine qnQ (fun e=> ?_) fun e=> ?_
  ·rw[if_pos e]at hd
   rw[hd]
   try rfl
  ·rw[if_neg (by rw[e];decide)]at hd
   exact⟨by omega,_,by omega,k+1,_,by omega,rfl,by omega,by omega,hd,rfl⟩
 ·have hkn:k=c.sel.length:=by omega
  rw[hd,hkn,List.drop_of_length_le (by simp)]
  rfl
set_option maxHeartbeats 8000000 in
theorem qGj:FnEq Tryz.prog 6 [] (.bool true):=by
 have e1: ∀(l:List Bool) (j:Nat),l.getD j default=l.getD j false:=fun _ _=>rfl
 have i2:=qFV 2 (.inr rfl)
 have i1:=qFV 1 (.inl rfl)
 have c2:=qFS 2 (.inr rfl)
 have c1:=qFS 1 (.inl rfl)
 have hS0:=qE3 gX qFR (cX 2) c2 ⟨[0],[]⟩ []
 have hS1:=qE3 gX qFR (cX 2) c2 ⟨[1],[]⟩ []
 have hT0:=qFW gX qFR (cX 2) c2 0 rfl rfl
 have hT1:=qFW gX qFR (cX 2) c2 1 rfl rfl
 have hL2:=qGi gX qFR (cX 2) c2
 have hL1:=qGi gX qFR (cX 1) c1
 have hB1:=qE5 gX qFR (cX 2) c2 ⟨[1],[]⟩ [] vX1 vX1_at.1
 have hB0:=qE5 gX qFR (cX 2) c2 ⟨[1],[]⟩ [] vX0 vX0_at.1
 have hR1:=qE4 gX qFR (cX 2) c2 ⟨[1],[]⟩ [] vX1 vX1_at.1
 rw[qG0]at hS0 hT0
 rw[qG1]at hS1 hT1
 rw[show(cX 2).sel.length=18 from rfl]at hL2 hB1 hB0 hR1 i2 hS0 hS1 hT0 hT1
 rw[show(cX 1).sel.length=18 from rfl]at hL1 i1
 rw[lpX2]at hL2
 rw[lpX1]at hL1
 rw[stX1,decide_eq_true rfl]at hB1
 rw[stX1]at hR1
 rw[decide_eq_false stX0]at hB0
 rw[qFJ,vX0_at.2.1,if_pos rfl]at hT0
 rw[qFJ,vX1_at.2.1,if_neg (by decide)]at hT1
 obtain⟨l0,a0,a6⟩:=vX0_at
 obtain⟨l1,b0,b1,b6⟩:=vX1_at
 clear c1 c2
 generalize vX0=v0 at *
 generalize vX1=v1 at *
 generalize qCs gX (cX 2) 18=d2 at *
 generalize qCs gX (cX 1) 18=d1 at *
 have g2:=qFR
 generalize cX 2=x2 at *
 generalize cX 1=x1 at *
 generalize gX=g at *
 refine FnEq.of_awp Tryz.func6 ok6 (by show 0<=_;decide) (by simp only[push_cast,reduceIte,reduceEqDiff,reduceAdd,reduceSub,reduceMul,Nat.reduceBEq,reduceLT,reduceLeDiff,reduceCtorEq,reduceToNat,reduceNeg]<;>first|exact fun _ _=>trivial|simp) ?_
 simp only[ac6,rv6,push_cast,reduceIte,reduceEqDiff,reduceAdd,reduceSub,reduceMul,Nat.reduceBEq,reduceLT,reduceLeDiff,reduceCtorEq,reduceToNat,reduceNeg]
 refine qrm i2 sC ?_
 refine sB ?_
 refine qrm i1 sC ?_
 refine sB ?_
 refine⟨by simp,?_⟩
 refine qrm hS0 sC ?_
 refine sB ?_
 refine qrm hT0 sC ?_
 refine sB ?_
 refine⟨by simp,?_⟩
 refine qrm hS1 sC ?_
 refine sB ?_
 refine qrm hT1 sC ?_
 have L0:((v0.length:Nat):Int)=18:=by rw[l0];rfl
 have L1:((v1.length:Nat):Int)=18:=by rw[l1];rfl
 have d18:decide ((18:Int)≠18)=false:=by decide
 simp only[L0,L1,e1,a0,a6,b0,b1,b6,d18,Bool.not_true,Bool.not_false,push_cast,reduceIte,reduceEqDiff,reduceAdd,reduceSub,reduceMul,Nat.reduceBEq,reduceLT,reduceLeDiff,reduceCtorEq,reduceToNat,reduceNeg]
 have I1:=qx4 [1] [1] (by decide)
 have I0:=qx4 [0] [0] (by decide)
 have V1:=qx5 v1 v1 (by omega)
 rw[decide_eq_true rfl]at I1 I0 V1
 refine⟨by omega,by omega,by omega,by omega,by omega,by omega,by omega,by omega,by omega,by omega,by simp,?_⟩
 refine qrm I1 ⟨slTF _ _,.refl _,trivial⟩ ?_
 simp only[Bool.not_true,Bool.not_false,push_cast,reduceIte,reduceEqDiff,reduceAdd,reduceSub,reduceMul,Nat.reduceBEq,reduceLT,reduceLeDiff,reduceCtorEq,reduceToNat,reduceNeg]
 refine⟨by simp,?_⟩
 refine qrm I0 ⟨slTF _ _,.refl _,trivial⟩ ?_
 simp only[Bool.not_true,Bool.not_false,push_cast,reduceIte,reduceEqDiff,reduceAdd,reduceSub,reduceMul,Nat.reduceBEq,reduceLT,reduceLeDiff,reduceCtorEq,reduceToNat,reduceNeg]
 refine qrm hL2 ⟨qDV g,qDW x2,trivial⟩ ?_
 simp only[Bool.not_true,Bool.not_false,push_cast,reduceIte,reduceEqDiff,reduceAdd,reduceSub,reduceMul,Nat.reduceBEq,reduceLT,reduceLeDiff,reduceCtorEq,reduceToNat,reduceNeg]
 refine qrm hL1 ⟨qDV g,qDW x1,trivial⟩ ?_
 simp only[Bool.not_true,Bool.not_false,push_cast,reduceIte,reduceEqDiff,reduceAdd,reduceSub,reduceMul,Nat.reduceBEq,reduceLT,reduceLeDiff,reduceCtorEq,reduceToNat,reduceNeg]
 refine qrm hB1 sC ?_
 simp only[Bool.not_true,Bool.not_false,push_cast,reduceIte,reduceEqDiff,reduceAdd,reduceSub,reduceMul,Nat.reduceBEq,reduceLT,reduceLeDiff,reduceCtorEq,reduceToNat,reduceNeg]
 refine qrm hB0 sC ?_
 simp only[Bool.not_true,Bool.not_false,push_cast,reduceIte,reduceEqDiff,reduceAdd,reduceSub,reduceMul,Nat.reduceBEq,reduceLT,reduceLeDiff,reduceCtorEq,reduceToNat,reduceNeg]
 refine qrm hR1 sC ?_
 simp only[Bool.not_true,Bool.not_false,push_cast,reduceIte,reduceEqDiff,reduceAdd,reduceSub,reduceMul,Nat.reduceBEq,reduceLT,reduceLeDiff,reduceCtorEq,reduceToNat,reduceNeg]
 refine qrm V1 ⟨slTF _ _,slTF _ _,trivial⟩ ?_
 simp only[Bool.not_true,Bool.not_false,push_cast,reduceIte,reduceEqDiff,reduceAdd,reduceSub,reduceMul,Nat.reduceBEq,reduceLT,reduceLeDiff,reduceCtorEq,reduceToNat,reduceNeg]
 done
theorem qGk(g:Grid)(c:Cfg)(dr:List Int)(s:PSt)(p:List Bool):Sub (.agg (qDX true g c dr s p)) (.agg (qDX false g c dr s p)):=
 Sub.aggL ⟨.refl _,.refl _,.refl _,.refl _,slTF _ _,slTF _ _,slTF _ _,slTF _ _,slTF _ _,slTF _ _,slTF _ _,Sub.slR 1 (fun h=>by cases h) (SubR.map _ _ _ fun r _=>⟨slTF _ _,trivial⟩),slTF _ _,trivial⟩
theorem qGn{us:List Ty} : ∀ {ts:List Ty} {a:List PV},RowV (ts++us) a-> ∃a1 a2,a=a1++a2/\RowV ts a1/\RowV us a2
 |[],a,h=>⟨[],a,rfl,⟨rfl,fun j t c h1=>by simp at h1⟩,h⟩
 | t :: ts, a, h => by
   obtain⟨c,r,rfl,hc,hr⟩:=qmn h
   obtain⟨a1,a2,rfl,h1,h2⟩:=qGn hr
   refine⟨c::a1,a2,rfl,⟨by rw[List.length_cons,List.length_cons,h1.1],fun j t' c' e1 e2=> ?_⟩,h2⟩
   cases j with
   |zero=>simp at e1 e2;subst e1;subst e2;exact hc
   |succ j=>exact h1.2 j t' c' (by simpa using e1) (by simpa using e2)
def u8T:Ty:= .sl 1 [.i .u8]
def trT:Ty:= .sl 3 [.i .u8,.i .u8,.i .u8]
def isT:Ty:= .sl 1 [.i .i64]
def qGo:List Ty:=[u8T,trT,trT,isT,.sl 1 [isT],.sl 2 [.b,.i .i64],.sl 1 [.b],u8T,u8T]
def qGp:List Ty:=qEW++qGo
theorem qGq{c:PV}(h:qEt .b c): ∃b:Bool,c= .bool b:=by cases h;exact⟨_,rfl⟩
theorem qGr{c:PV}(h:qEt trT c): ∃l:List (Int×Int×Int),c= .sl true 3 (rows qAp l):=by
 obtain⟨rs,rfl,_,hr⟩:=qEL h
 obtain⟨bs,rfl,_⟩:=qEM (f:=qAp) (Q:=fun _=>True) (rs:=rs) fun r hr2=>by
  obtain⟨d0,q0,rfl,e0,g0⟩:=qmn (hr r hr2)
  obtain⟨d1,q1,rfl,e1,g1⟩:=qmn g0
  obtain⟨d2,q2,rfl,e2,g2⟩:=qmn g1
  obtain⟨m0,rfl,_⟩:=qEJ e0
  obtain⟨m1,rfl,_⟩:=qEJ e1
  obtain⟨m2,rfl,_⟩:=qEJ e2
  rw[qEH g2]
  exact⟨(m0,m1,m2),rfl,trivial⟩
 exact⟨bs,rfl⟩
theorem qGs{a:List PV}(h:RowV qGp a): ∃z:CaseA,z.By/\a=qF4 true z:=by
 obtain⟨a0,r,rfl,h0,k0⟩:=qGn h
 obtain⟨x,hx,rfl⟩:=qEX h0
 obtain⟨c1,a1,rfl,h1,k1⟩:=qmn k0
 obtain⟨c2,a2,rfl,h2,k2⟩:=qmn k1
 obtain⟨c3,a3,rfl,h3,k3⟩:=qmn k2
 obtain⟨c4,a4,rfl,h4,k4⟩:=qmn k3
 obtain⟨c5,a5,rfl,h5,k5⟩:=qmn k4
 obtain⟨c6,a6,rfl,h6,k6⟩:=qmn k5
 obtain⟨c7,a7,rfl,h7,k7⟩:=qmn k6
 obtain⟨c8,a8,rfl,h8,k8⟩:=qmn k7
 obtain⟨c9,a9,rfl,h9,k9⟩:=qmn k8
 rw[qEH k9]
 obtain⟨wild,rfl,w1,w2⟩:=qEN h1
 obtain⟨ins,rfl⟩:=qGr h2
 obtain⟨out,rfl⟩:=qGr h3
 obtain⟨regs,rfl,_⟩:=qEO h4
 obtain⟨ms,rfl,hml,hm⟩:=qEL h5
 obtain⟨mems,rfl,_⟩:=qEM (f:=memC true) (Q:=fun _=>True) (rs:=ms) fun r hr=>by
  obtain⟨d0,q0,rfl,e0,g0⟩:=qmn (hm r hr)
  obtain⟨l,rfl,_⟩:=qEO e0
  rw[qEH g0]
  exact⟨l,rfl,trivial⟩
 obtain⟨hs,rfl,_,hh⟩:=qEL h6
 obtain⟨heads,rfl,_⟩:=qEM (f:=qF2) (Q:=fun _=>True) (rs:=hs) fun r hr=>by
  obtain⟨d0,q0,rfl,e0,g0⟩:=qmn (hh r hr)
  obtain⟨d1,q1,rfl,e1,g1⟩:=qmn g0
  obtain⟨b,rfl⟩:=qGq e0
  obtain⟨n,rfl,_⟩:=qEK e1
  rw[qEH g1]
  exact⟨(b,n),rfl,trivial⟩
 obtain⟨rs,rfl,_,hr⟩:=qEL h7
 obtain⟨rooms,rfl,_⟩:=qEM (f:=qk7) (Q:=fun _=>True) (rs:=rs) fun r hr2=>by
  obtain⟨d0,q0,rfl,e0,g0⟩:=qmn (hr r hr2)
  obtain⟨b,rfl⟩:=qGq e0
  rw[qEH g0]
  exact⟨b,rfl,trivial⟩
 obtain⟨pads,rfl,p1,p2⟩:=qEN h8
 obtain⟨v,rfl,v1,v2⟩:=qEN h9
 have hmx:maxLen=9223372036854775807:=rfl
 simp only[rows,List.length_map]at hml
 exact⟨⟨x,wild,ins,out,⟨regs,mems⟩,heads,rooms,pads,v⟩,⟨hx,w1,w2,p1,p2,v1,v2,by show(mems.length:Int)<=_;omega⟩,rfl⟩
def u16C(x:Int):List PV:=[.sc (.int .u16 x)]
@[push_cast] theorem qGx(x:Int):u16C x=[.sc (.int .u16 x)]:=rfl
set_option maxHeartbeats 8000000 in
set_option maxRecDepth 20000 in
theorem qGy(z:CaseA)(hz:z.By)(ks:List Int)(hkl:(ks.length:Int)<=9223372036854775807)(hkb: ∀x∈ks,0<=x/\x<=65535):FnEq Tryz.prog 5 [.agg (qF4 true z),.sl true 1 (rows u16C ks)] (.bool true):=by
 refine FnEq.of_awp Tryz.func5 ok5c (by show 2<=_;decide) (by simp only[push_cast,reduceIte,reduceEqDiff,reduceAdd,reduceSub,reduceMul,Nat.reduceBEq,reduceLT,reduceLeDiff,reduceCtorEq,reduceToNat,reduceNeg]<;>first|exact fun _ _=>trivial|simp) ?_
 have e1: ∀(l:List Bool) (j:Nat),l.getD j default=l.getD j false:=fun _ _=>rfl
 have e0: ∀(l:List Int) (j:Nat),l.getD j default=l.getD j 0:=fun _ _=>rfl
 have hA:=qFa z hz
 have hS:=qF9 z hz
 have hg:=(qBZ z.x.g).1
 have hc:=qF7 hz
 have hcn:=hg.count
 have l1:=hc.ln.1
 have hL:=qCj hg hc z.s (qx7 4 z.pads)
 have hRL:=qE7 (qBX z.x.g) hg (qF6 z) hc z.s (qx7 4 z.pads)
 have hSe:=qE3 (qBX z.x.g) hg (qF6 z) hc z.s (qx7 4 z.pads)
 have hSt:=qE5 (qBX z.x.g) hg (qF6 z) hc z.s (qx7 4 z.pads)
 have hSo:=qzb (qBX z.x.g) hg (qF6 z) hc.sels
 have hsf:setF (qBX z.x.g) (qF6 z) z.s (qx7 4 z.pads)=qxk (rndF (qBX z.x.g) (qF6 z) z.s (qx7 4 z.pads)) (qF6 z).sel.length (qF6 z).sel.length (List.replicate (qF6 z).sel.length false):=qxq _ _ _ _
 have hwl:(setF (qBX z.x.g) (qF6 z) z.s (qx7 4 z.pads)).length=(qF6 z).sel.length:=qD0 (by simp) _
 simp only[ac5c,rv5c,qF4,List.cons_append,List.nil_append,push_cast,reduceIte,reduceEqDiff,reduceAdd,reduceSub,reduceMul,Nat.reduceBEq,reduceLT,reduceLeDiff,reduceCtorEq,reduceToNat,reduceNeg]at hA hS ⊢
 generalize qCs (qBX z.x.g) (qF6 z) (qF6 z).sel.length=dr at *
 generalize qx7 4 z.pads=bp at *
 generalize qBX z.x.g=g at *
 generalize qF6 z=c at *
 generalize setF g c z.s bp=w at *
 refine qoF qGj ?_
 refine sB ?_
 refine qoG hS ?_
 rintro r ⟨b,rfl⟩
 refine sB ?_
 refine qnQ (fun e=> ?_) fun e=> ?_
 ·trivial
 refine qoF hA ?_
 simp only[List.cons_append,List.nil_append,push_cast,reduceIte,reduceEqDiff,reduceAdd,reduceSub,reduceMul,Nat.reduceBEq,reduceLT,reduceLeDiff,reduceCtorEq,reduceToNat,reduceNeg]
 have hAr:SubL [.agg (qDX true g c dr z.s bp)] [.agg (qDX false g c dr z.s bp)]:=⟨qGk g c dr z.s bp,trivial⟩
 refine qrm hSe hAr ?_
 have hne:decide ((c.sel.length:Int)≠(c.sel.length:Int))=false:=decide_eq_false fun h=>h rfl
 simp only[hwl,hne,push_cast,reduceIte,reduceEqDiff,reduceAdd,reduceSub,reduceMul,Nat.reduceBEq,reduceLT,reduceLeDiff,reduceCtorEq,reduceToNat,reduceNeg]
 refine qrm (hSt w hwl) ⟨qGk g c dr z.s bp,slTF _ _,trivial⟩ ?_
 refine sB ?_
 by_cases hst:qxj (rndF g c z.s bp) c.sel.length w=w
 ·rw[decide_eq_true hst]
  simp only[Bool.not_true,push_cast,reduceIte,reduceEqDiff,reduceAdd,reduceSub,reduceMul,Nat.reduceBEq,reduceLT,reduceLeDiff,reduceCtorEq,reduceToNat,reduceNeg]
  refine qoH (fun m st=> ∃i:Nat,i<=ks.length/\m=ks.length-i/\st=⟨[(1,.sl true 1 (rows u16C ks)),(5,.bool true),(6,.ptr 6 0),(7,.sl true 1 (rows qk7 w)),(8,.int i)],[(6,qDX true g c dr z.s bp)],[],[]⟩) ks.length ?_ ?_
  ·refine⟨0,by omega,by omega,?_⟩
   simp only[push_cast,reduceIte,reduceEqDiff,reduceAdd,reduceSub,reduceMul,Nat.reduceBEq,reduceLT,reduceLeDiff,reduceCtorEq,reduceToNat,reduceNeg]
   try rfl
  rintro m st ⟨i,hi,rfl,rfl⟩
  refine sB ?_
  refine qry ⟨[(1,.sl true 1 (rows u16C ks)),(5,.bool true),(6,.ptr 6 0),(7,.sl true 1 (rows qk7 w)),(8,.int i),(57,.bool (decide (i<ks.length/\i<12)))],[(6,qDX true g c dr z.s bp)],[],[]⟩ ?_ ?_
  ·refine qrq rfl (fun h=> ?_) fun h=> ?_<;>simp only[push_cast,reduceIte,reduceEqDiff,reduceAdd,reduceSub,reduceMul,Nat.reduceBEq,reduceLT,reduceLeDiff,reduceCtorEq,reduceToNat,reduceNeg]
   ·have h1:i<ks.length:=by omega
    have h2:((i:Int)<12) ↔ (i<ks.length/\i<12):=by omega
    simp only[h2]
   ·rw[decide_eq_false (fun q=>h (by omega))]
  refine sB ?_
  refine qnR (fun h=> ?_) fun h=> ?_
  ·have hkr:0<=ks.getD i 0/\ks.getD i 0<=65535:=hkb _ (qza h.1)
   simp only[e0,hwl,push_cast,reduceIte,reduceEqDiff,reduceAdd,reduceSub,reduceMul,Nat.reduceBEq,reduceLT,reduceLeDiff,reduceCtorEq,reduceToNat,reduceNeg]
   refine⟨by omega,by omega,by omega,by omega,?_⟩
   refine qrm (hSo _) ⟨qDV g,qDW c,.refl _,trivial⟩ ?_
   have hnr:0<=ks.getD i 0%(c.sel.length:Int)/\ks.getD i 0%(c.sel.length:Int)<c.sel.length:=⟨Int.emod_nonneg _ (by omega),Int.emod_lt_of_pos _ (by omega)⟩
   generalize ks.getD i 0%(c.sel.length:Int)=n at *
   have hv1:(qz7 g c n).2=0->(0<=(qz7 g c n).1/\(qz7 g c n).1<c.sel.length)/\w.getD (qz7 g c n).1.toNat false=w.getD n.toNat false:=by
    rw[qz7,if_pos (by omega)]
    exact qCm hg hc hst _ _ _ hnr
   have hv2:=qCn hg hc hst hnr
   generalize qz7 g c n=se at *
   obtain⟨sv,ev⟩:=se
   simp only at hv1 hv2
   have d00:decide ((0:Int)=0)=true:=rfl
   have d04:decide ((0:Int)=4)=false:=rfl
   have d40:decide ((4:Int)=0)=false:=rfl
   have d44:decide ((4:Int)=4)=true:=rfl
   by_cases h0:ev=0
   ·obtain⟨⟨q1,q2⟩,q3⟩:=hv1 h0
    subst h0
    have dl:decide (sv<0)=false:=decide_eq_false (by omega)
    have dg:decide ((c.sel.length:Int)<=sv)=false:=decide_eq_false (by omega)
    have dx:(w.getD sv.toNat false !=w.getD n.toNat false)=false:=by rw[q3];simp
    simp only[d00,d04,dl,dg,hwl,e1,dx,push_cast,reduceIte,reduceEqDiff,reduceAdd,reduceSub,reduceMul,Nat.reduceBEq,reduceLT,reduceLeDiff,reduceCtorEq,reduceToNat,reduceNeg]
    exact⟨by omega,by omega,by omega,by omega,by omega,_,by omega,i+1,by omega,rfl,rfl⟩
   by_cases h4:ev=4
   ·subst h4
    by_cases hb:w.getD n.toNat false=true
    ·have hs0:decide (c.sel.getD n.toNat 0=0)=false:=decide_eq_false fun q=>absurd (hv2 rfl q) (by rw[hb];decide)
     simp only[d40,d44,hwl,e0,e1,hb,hs0,push_cast,reduceIte,reduceEqDiff,reduceAdd,reduceSub,reduceMul,Nat.reduceBEq,reduceLT,reduceLeDiff,reduceCtorEq,reduceToNat,reduceNeg]
     exact⟨by omega,by omega,by omega,by omega,by omega,_,by omega,i+1,by omega,rfl,rfl⟩
    ·have hb:w.getD n.toNat false=false:=Bool.eq_false_iff.2 hb
     simp only[d40,d44,hwl,e0,e1,hb,push_cast,reduceIte,reduceEqDiff,reduceAdd,reduceSub,reduceMul,Nat.reduceBEq,reduceLT,reduceLeDiff,reduceCtorEq,reduceToNat,reduceNeg]
     exact⟨by omega,by omega,by omega,_,by omega,i+1,by omega,rfl,rfl⟩
   ·have n0:decide (ev=0)=false:=decide_eq_false h0
    have n4:decide (ev=4)=false:=decide_eq_false h4
    simp only[n0,n4,push_cast,reduceIte,reduceEqDiff,reduceAdd,reduceSub,reduceMul,Nat.reduceBEq,reduceLT,reduceLeDiff,reduceCtorEq,reduceToNat,reduceNeg]
    exact⟨by omega,_,by omega,i+1,by omega,rfl,rfl⟩
  ·trivial
 ·rw[decide_eq_false hst]
  simp only[Bool.not_false,hwl,push_cast,reduceIte,reduceEqDiff,reduceAdd,reduceSub,reduceMul,Nat.reduceBEq,reduceLT,reduceLeDiff,reduceCtorEq,reduceToNat,reduceNeg]
  have hlt:cntM (depF g c) c.sel.length (c.sel.length+1)<c.sel.length:=by
   obtain⟨o,ho,eo⟩:=qxC (depF g c) c.sel.length (c.sel.length+1)
   have hle:=ho.cnt
   refine Classical.byContradiction fun q=>hst ?_
   obtain⟨ρ,hρ⟩:=qxG (dep:=depF g c) (n:=c.sel.length) (by omega)
   rw[hsf]
   exact qxv hL hρ (by simp)
  rw[decide_eq_true hlt]at hRL
  refine qrm hRL hAr ?_
  simp only[push_cast,reduceIte,reduceEqDiff,reduceAdd,reduceSub,reduceMul,Nat.reduceBEq,reduceLT,reduceLeDiff,reduceCtorEq,reduceToNat,reduceNeg]
  done
theorem u16R{c:PV}(h:qEt (.sl 1 [.i .u16]) c): ∃l:List Int,c= .sl true 1 (rows (fun x:Int=>[PV.sc (.int .u16 x)]) l)/\(l.length:Int)<=9223372036854775807/\ ∀b∈l,0<=b/\b<=65535:=by
 obtain⟨rs,rfl,h1,h2⟩:=qEL h
 obtain⟨l,rfl,hl⟩:=qEM (f:=fun x:Int=>[PV.sc (.int .u16 x)]) (Q:=fun b=>0<=b/\b<=65535) (rs:=rs) fun r hr=>by
  obtain⟨c,q,rfl,hc,h3⟩:=qmn (h2 r hr)
  obtain⟨n,rfl,e1,e2⟩:=u16V hc
  rw[qEH h3]
  exact⟨n,rfl,e1,e2⟩
 have hmx:maxLen=9223372036854775807:=rfl
 simp only[rows,List.length_map]at h1
 exact⟨l,rfl,by omega,hl⟩
theorem qGA {f : Nat} (hok : ∀ (z : CaseA), z.By -> ∀ ks : List Int, (ks.length : Int) <= 9223372036854775807 -> (∀ x ∈ ks, 0 <= x /\ x <= 65535) -> FnEq Tryz.prog f [.agg (qF4 true z), .sl true 1 (rows (fun x : Int => [PV.sc (.int .u16 x)]) ks)] (.bool true))
  {a:List PV} {b:PV} (ha:RowV qGp a) (hb:qEt (.sl 1 [.i .u16]) b):FnEq Tryz.prog f [.agg a,b] (.bool true):=by
 obtain⟨z,hz,rfl⟩:=qGs ha
 obtain⟨ks,rfl,h1,h2⟩:=u16R hb
 exact hok z hz ks h1 h2
end Go.Proofs.YtdmkfgkmnpohlaaGreat
namespace Go.Proofs.YtdmkfgkmnpohlaaGreat
open Go Go.ChangeShapes Go.WideShapes Go.ChangeAt Go.RowKit Go.Vc
theorem qGu:qEs Tryz.prog 9 38 qGp=true:=by kernel_rfl
theorem und1:Tryz.prog.underlying 58=some (.slice 59):=by kernel_rfl
theorem qGC:qEs Tryz.prog 9 58 [.sl 1 [.i .u16]]=true:=by kernel_rfl
theorem Tryz.own:ownKnob Tryz.prog.godebug=none:=by kernel_rfl
theorem Tryz.laidOut:laidOutB Tryz.prog=true:=by kernel_rfl
theorem qGv:Tryz.prog.underlying 4=some .bool:=by kernel_rfl
theorem qGw:Tryz.f5.params= #[38,58]:=by kernel_rfl
set_option maxRecDepth 100000 in
theorem fsources_lifted (os : Os) (started : os.Started) (H : Type) (enc : TypeId × Value -> H) :
  ReturnsInHanded {} Tryz.checked os 5 .any (Rows.fabricSourcesSpec.pre6 enc Tryz.prog Tryz.f5 Rows.fabricSourcesRow.domain false) (Rows.fabricSourcesSpec.post enc Tryz.prog Tryz.f5 false true false false):=by
 refine returnsInHanded_of_change (C:=Tryz.checked) Tryz.own started (by kernel_rfl) Tryz.func5
  (ChangeSpec.witness6 (enc:=enc) (C:=Tryz.checked) false ⟨#[],#[.agg #[.int .u8 0,.int .u8 0,.int .u8 0,.int .u8 0,.slice none 0 0,.slice none 0 0,.slice none 0 0,.slice none 0 0,.slice none 0 0,.slice none 0 0,.slice none 0 0,.slice none 0 0,.slice none 0 0,.slice none 0 0,.slice none 0 0,.slice none 0 0],.slice none 0 0],[]⟩ 8 (by kernel_rfl) (by kernel_rfl) (by kernel_rfl) (by kernel_rfl)) ?_
 intro W base args ds gs before hval0 hW hcnd _
 have hval: ∀(j:Nat) t v,Tryz.f5.params[j]? =some t->args[j]? =some v->Value.okWide Tryz.prog W .any base t v:=hval0
 have hW' :=hW
 obtain⟨p,q,hA0,hV,rfl,hfz,hnd⟩:=hW
 have hA:DataW.TrodAll enc Tryz.prog W 0 (fun _=>true) true Tryz.f5.params.toList args.toList ds p:=hA0
 rw[qGw]at hA hval
 obtain⟨v0,v1,d0,d1,p0,p1,rfl,rfl,rfl,h0,h1⟩:=trodAll_two hA
 obtain⟨rfl,rfl⟩:=trodVars_none hV
 obtain⟨a0,r0,t0⟩:=qEC qGu (by kernel_rfl) (hval 0 _ v0 rfl rfl) h0
 obtain⟨a1,r1,t1⟩:=argC qGC (okSl und1 (hval 1 _ v1 rfl rfl)) h1
 have hlt: ∀x∈p0++p1,x.block<W.heap.size:=fun x hx=>hW'.lt x (by simpa using hx)
 refine(qEE (qGA qGy r0 r1) rfl fun j cc hj=> ?_).mono fun e W' ⟨he,hb⟩=> ?_
 ·match j with
  |0=>simp at hj;subst hj;exact t0
  |1=>simp at hj;subst hj;exact t1
  |j+2=>simp at hj
 ·refine⟨_,he,_,_,_,[],_,[],hW',?_,trodAll_mk2 (Below.trod Tryz.laidOut (by kernel_rfl) (of_decide_eq_true (by kernel_rfl)) h0 hb fun x hx=>hlt x (by simp[hx])) (Below.trod Tryz.laidOut (by kernel_rfl) (of_decide_eq_true (by kernel_rfl)) h1 hb fun x hx=>hlt x (by simp[hx])),rfl,hb.frame _,fun h=>by cases h⟩
  exact trodAll_mk1 (shut_bool qGv true)
theorem fsources_holds:Rows.FabricSourcesSaid:=
 OpenClaim.holds_of_wide 5 Tryz.f5 rfl rfl rfl rfl rfl rfl rfl ⟨rfl,rfl,rfl,rfl,rfl⟩ rfl rfl rfl rfl rfl (by kernel_rfl) Tryz.func5 (by kernel_rfl)
  (of_decide_eq_true (by kernel_rfl)) (by unfold Func.isWrapper;first|(rw[if_pos (by decide+kernel)];kernel_rfl)|(rw[if_neg (by decide+kernel)];exact⟨rfl,rfl⟩))
  (fun os started H enc _=>fsources_lifted os started H enc)
end Go.Proofs.YtdmkfgkmnpohlaaGreat
