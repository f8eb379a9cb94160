/-
  Chapter 9's functions, walked over pure data: the library of the walk, the functions' code over data, and what each computes. (part 5)
-/
import Derived.Test.YtjgckckimeldeaaGreatDoorP4
import Derived.Test.YtjgckckimeldeaaGreatDoorProg
import Derived.Lib.ItoaNum
import Derived.Lib.ItoaLen
import Derived.Lib.MapLaws
import Derived.Lib.Bytealg
import Derived.Lib.Join
import Derived.Lib.Strings
import Derived.Shelf.LaysM
import Derived.Shelf.Strconv.Itoa3
import Derived.Shelf.Strings.OnBuilder
import Derived.Shelf.Small.Strs
import Derived.Shelf.Small.Wraps
import Derived.Shelf.Strings.Split
set_option linter.unusedVariables false
set_option linter.unusedSimpArgs false
set_option maxRecDepth 100000
namespace Sh
open Go
def db14_0 : DC := (sq [oq 30 (.bin .lss (.tmp 29) (.tmp 28))] (.seq (.cond (.tmp 30) .skip (.exit 0)) (.seq (.block 1 none (sq [mq 31 29,oq 32 (.iaddr 1 (.tmp 27) (.tmp 29)),oq 33 (.load none (.tmp 32)),mq 10 31,mq 11 33] (sq [mq 34 8,mq 35 34,gq 36 (.mov (.tmp 11)) 35 true,gq 37 (.mov (.tmp 0)) 35 true,gq 38 (.mov (.tmp 10)) 35 true,gq 39 (.iaddr 2 (.tmp 37) (.tmp 38)) 35 true,gq 40 (.faddr 0 1 false (.tmp 39)) 35 true,gq 41 (.load none (.tmp 40)) 35 true,gq 42 (.bin .leq (.tmp 36) (.tmp 41)) 35 true,oq 43 (.pick (.tmp 35) (.tmp 42) (bq false)),mq 8 43] (pq [mq 44 9,mq 45 44,gq 46 (.mov (.tmp 11)) 45 true,gq 47 (.mov (.tmp 0)) 45 true,gq 48 (.mov (.tmp 10)) 45 true,gq 49 (.iaddr 2 (.tmp 47) (.tmp 48)) 45 true,gq 50 (.faddr 1 1 false (.tmp 49)) 45 true,gq 51 (.load none (.tmp 50)) 45 true,gq 52 (.bin .leq (.tmp 46) (.tmp 51)) 45 true,oq 53 (.pick (.tmp 45) (.tmp 52) (bq false)),mq 9 53])))) (pq [oq 54 (.bin .add (.tmp 29) (iq 1)),mq 29 54]))))
def dk14_0 : Keep := ⟨[],[0,8,9,27,28,29],[19]⟩
def dc14 : DFunc := ⟨57,2,[.tmp 4,.tmp 5,.tmp 6],sq [oq 4 (.mov (bq false)),oq 5 (.mov (bq false)),oq 6 (.mov (iq 0))] (.seq (sq [mq 12 0,oq 13 (.call (.func 26) [.tmp 12]),mq 14 1,mq 15 0,oq 16 (.len (.tmp 15)),oq 17 (.minmax true (iq 1) [.tmp 16]),oq 18 (.call (.func 27) [.tmp 14,.tmp 17]),oq 19 (.lit true 1 2 (.int .i64 0) [(0,(.tmp 13)),(1,(.tmp 18))]),oq 20 (.call (.func 81) [.tmp 19]),mq 7 20] (sq [mq 21 7,oq 22 (.bin .neq (.tmp 21) (iq 0))] (.cond (.tmp 22) (sq [mq 23 7,oq 4 (.mov (bq false)),oq 5 (.mov (bq false)),mq 6 23] .ret) .skip))) (sq [oq 8 (.mov (bq true)),oq 9 (.mov (bq true))] (.seq (sq [mq 24 1,mq 25 0,oq 26 (.len (.tmp 25)),oq 27 (.call (.func 82) [.tmp 24,.tmp 26]),oq 28 (.len (.tmp 27)),oq 29 (.mov (iq 0))] (.block 0 (some ⟨[],[8,9],[19]⟩) (.loop dk14_0 db14_0))) (sq [mq 55 8,mq 56 9,mq 4 55,mq 5 56,oq 6 (.mov (iq 0))] .ret))))⟩
theorem dh14:cProg Go.Proofs.Tryz.prog ⟨[(0,⟨[],[0,8,9,27,28,29],[19]⟩)],[(0,⟨[],[8,9],[19]⟩)],[19]⟩ 14=some dc14:=by kernel_rfl
def db17_0 : DC := (sq [oq 35 (.bin .lss (.tmp 34) (.tmp 33))] (.seq (.cond (.tmp 35) .skip (.exit 0)) (.seq (.block 1 none (sq [mq 36 34,oq 37 (.iaddr 1 (.tmp 32) (.tmp 34)),oq 38 (.load none (.tmp 37)),mq 8 36,mq 9 38] (pq [mq 39 7,mq 40 8,mq 41 7,mq 42 8,oq 43 (.iaddr 1 (.tmp 41) (.tmp 42)),oq 44 (.load none (.tmp 43)),mq 45 9,oq 46 (.minmax false (.tmp 44) [.tmp 45]),oq 47 (.iaddr 1 (.tmp 39) (.tmp 40)),nq (.store 1 (.tmp 47) (.tmp 46))]))) (pq [oq 48 (.bin .add (.tmp 34) (iq 1)),mq 34 48]))))
def dk17_0 : Keep := ⟨[],[7,32,33,34],[21,28]⟩
def dc17 : DFunc := ⟨50,2,[.tmp 4,.tmp 5],sq [oq 4 (.mov (.const (.slice none 0 0))),oq 5 (.mov (iq 0))] (.seq (sq [mq 10 0,oq 11 (.call (.func 83) [.tmp 10]),mq 12 1,oq 13 (.len (.tmp 12)),mq 14 0,oq 15 (.len (.tmp 14)),oq 16 (.bin .neq (.tmp 13) (.tmp 15)),oq 17 (.call (.func 84) [.tmp 16,iq 2]),mq 18 1,oq 19 (.call (.func 85) [.tmp 18,.func 86]),oq 20 (.call (.func 81) [.tmp 19]),oq 21 (.lit true 1 3 (.int .i64 0) [(0,(.tmp 11)),(1,(.tmp 17)),(2,(.tmp 20))]),oq 22 (.call (.func 81) [.tmp 21]),mq 6 22] (sq [mq 23 6,oq 24 (.bin .neq (.tmp 23) (iq 0))] (.cond (.tmp 24) (sq [mq 25 6,oq 4 (.mov (.const (.slice none 0 0))),mq 5 25] .ret) .skip))) (sq [mq 26 0,oq 27 (.len (.tmp 26)),oq 28 (.mkslice 1 (.int .i64 0) (.tmp 27) (.tmp 27)),mq 7 28] (sq [mq 29 7,mq 30 0,oq 31 (.copy 1 (.tmp 29) (.tmp 30))] (.seq (sq [mq 32 1,oq 33 (.len (.tmp 32)),oq 34 (.mov (iq 0))] (.block 0 (some ⟨[],[7],[21,28]⟩) (.loop dk17_0 db17_0))) (sq [mq 49 7,mq 4 49,oq 5 (.mov (iq 0))] .ret)))))⟩
theorem dh17:cProg Go.Proofs.Tryz.prog ⟨[(0,⟨[],[7,32,33,34],[21,28]⟩)],[(0,⟨[],[7],[21,28]⟩)],[21]⟩ 17=some dc17:=by kernel_rfl
def dc26 : DFunc := ⟨11,1,[.tmp 2],sq [oq 2 (.mov (iq 0))] (sq [mq 3 0,oq 4 (.len (.tmp 3)),oq 5 (.call (.func 94) [.tmp 4]),mq 6 0,oq 7 (.call (.func 95) [.tmp 6,.func 96]),oq 8 (.call (.func 81) [.tmp 7]),oq 9 (.lit true 1 2 (.int .i64 0) [(0,(.tmp 5)),(1,(.tmp 8))]),oq 10 (.call (.func 81) [.tmp 9]),mq 2 10] .ret)⟩
theorem dh26:cProg Go.Proofs.Tryz.prog ⟨[],[],[9]⟩ 26=some dc26:=by kernel_rfl
def db27_0 : DC := (sq [oq 25 (.bin .lss (.tmp 24) (.tmp 23))] (.seq (.cond (.tmp 25) .skip (.exit 0)) (.seq (.block 1 none (sq [oq 26 (.iaddr 4 (.tmp 22) (.tmp 24)),oq 27 (.load (some 4) (.tmp 26)),oq 8 (.alloc (.agg [.str [],.int .i64 0,.int .i64 0,.int .i64 0]) 4),nq (.store 4 (.tmp 8) (.tmp 27))] (.seq (.seq (.ops true [oq 28 (.faddr 0 1 false (.tmp 8)),⟨some 29,.load none (.tmp 28),none,[0]⟩,⟨some 30,.call (.func 98) [.tmp 29],none,[1,0]⟩,⟨some 31,.un .not (.tmp 30),none,[2,1,0]⟩,⟨some 32,.call (.func 84) [.tmp 31,iq 8],none,[3,2,1,0]⟩,mq 33 6,oq 34 (.faddr 0 1 false (.tmp 8)),⟨some 35,.load none (.tmp 34),none,[6]⟩,⟨some 36,.lookup 2 [] false (.bool false) (.tmp 33) (.tmp 35),none,[5,7,6]⟩,⟨some 37,.call (.func 84) [.tmp 36,iq 9],none,[8,5,7,6,4,3,2,1,0]⟩,oq 38 (.faddr 1 1 false (.tmp 8)),⟨some 39,.load none (.tmp 38),none,[10]⟩,⟨some 40,.bin .lss (.tmp 39) (iq 0),none,[11,10]⟩,⟨some 41,.mov (.tmp 40),none,[12,11,10,9,8,5,7,6,4,3,2,1,0]⟩,⟨some 42,.faddr 1 1 false (.tmp 8),some (41,false),[13,12,11,10,9,8,5,7,6,4,3,2,1,0]⟩,⟨some 43,.load none (.tmp 42),some (41,false),[14,13,12,11,10,9,8,5,7,6,4,3,2,1,0]⟩,⟨some 44,.mov (.tmp 1),some (41,false),[13,12,11,10,9,8,5,7,6,4,3,2,1,0]⟩,⟨some 45,.bin .geq (.tmp 43) (.tmp 44),some (41,false),[15,14,13,12,11,10,9,8,5,7,6,4,3,2,1,0,16]⟩,⟨some 46,.pick (.tmp 41) (bq true) (.tmp 45),none,[13,12,11,10,9,8,5,7,6,4,3,2,1,0,17,15,14,16]⟩,⟨some 47,.call (.func 84) [.tmp 46,iq 10],none,[18,13,12,11,10,9,8,5,7,6,4,3,2,1,0,17,15,14,16]⟩,oq 48 (.faddr 2 1 false (.tmp 8)),⟨some 49,.load none (.tmp 48),none,[20]⟩,⟨some 50,.call (.func 99) [.tmp 49,iq 1,iq 1000000],none,[21,20,19,18,13,12,11,10,9,8,5,7,6,4,3,2,1,0,17,15,14,16]⟩,oq 51 (.faddr 3 1 false (.tmp 8)),⟨some 52,.load none (.tmp 51),none,[23]⟩,⟨some 53,.call (.func 100) [.tmp 52],none,[24,23,22,21,20,19,18,13,12,11,10,9,8,5,7,6,4,3,2,1,0,17,15,14,16]⟩,⟨some 54,.lit true 1 5 (.int .i64 0) [(0,(.tmp 32)),(1,(.tmp 37)),(2,(.tmp 47)),(3,(.tmp 50)),(4,(.tmp 53))],none,[4,3,2,1,0,9,8,5,7,6,19,18,13,12,11,10,17,15,14,16,22,21,20,25,24,23]⟩,⟨some 55,.call (.func 81) [.tmp 54],none,[26,4,3,2,1,0,9,8,5,7,6,19,18,13,12,11,10,17,15,14,16,22,21,20,25,24,23]⟩,⟨some 9,.mov (.tmp 55),none,[27,26,4,3,2,1,0,9,8,5,7,6,19,18,13,12,11,10,17,15,14,16,22,21,20,25,24,23]⟩]) (sq [mq 56 9,oq 57 (.bin .neq (.tmp 56) (iq 0))] (.cond (.tmp 57) (sq [mq 58 9,mq 4 58] .ret) .skip))) (pq [mq 59 6,oq 60 (.faddr 0 1 false (.tmp 8)),oq 61 (.load none (.tmp 60)),nq (.mapset 2 [] (.tmp 59) (.tmp 61) (bq true))])))) (pq [oq 62 (.bin .add (.tmp 24) (iq 1)),mq 24 62]))))
def dk27_0 : Keep := ⟨[],[1,6,22,23,24],[16,21]⟩
def dc27 : DFunc := ⟨63,2,[.tmp 4],sq [oq 4 (.mov (iq 0))] (.seq (sq [mq 10 1,oq 11 (.call (.func 97) [.tmp 10]),mq 12 0,oq 13 (.len (.tmp 12)),oq 14 (.bin .gtr (.tmp 13) (iq 32)),oq 15 (.call (.func 84) [.tmp 14,iq 5]),oq 16 (.lit true 1 2 (.int .i64 0) [(0,(.tmp 11)),(1,(.tmp 15))]),oq 17 (.call (.func 81) [.tmp 16]),mq 5 17] (sq [mq 18 5,oq 19 (.bin .neq (.tmp 18) (iq 0))] (.cond (.tmp 19) (sq [mq 20 5,mq 4 20] .ret) .skip))) (sq [oq 21 .makemap,mq 6 21] (.seq (sq [mq 22 0,oq 23 (.len (.tmp 22)),oq 24 (.mov (iq 0))] (.block 0 (some ⟨[],[],[16,21]⟩) (.loop dk27_0 db27_0))) (sq [oq 4 (.mov (iq 0))] .ret))))⟩
theorem dh27:cProg Go.Proofs.Tryz.prog ⟨[(0,⟨[],[1,6,22,23,24],[16,21]⟩)],[(0,⟨[],[],[16,21]⟩)],[16,54]⟩ 27=some dc27:=by kernel_rfl
def db28_0 : DC := (.seq (sq [mq 11 5,mq 12 0,oq 13 (.len (.tmp 12)),oq 14 (.bin .lss (.tmp 11) (.tmp 13))] (.cond (.tmp 14) .skip (.exit 0))) (.seq (.block 1 none (.seq (.ops true [mq 17 0,mq 18 5,⟨some 19,.iaddr 1 (.tmp 17) (.tmp 18),none,[0,1]⟩,⟨some 20,.load none (.tmp 19),none,[2,0,1]⟩,mq 21 1,mq 22 5,⟨some 23,.iaddr 1 (.tmp 21) (.tmp 22),none,[4,5]⟩,⟨some 24,.load none (.tmp 23),none,[6,4,5]⟩,⟨some 25,.bin .neq (.tmp 20) (.tmp 24),none,[3,2,0,1,7,6,4,5]⟩]) (.cond (.tmp 25) (sq [oq 4 (.mov (bq false))] .ret) .skip))) (pq [mq 15 5,oq 16 (.bin .add (.tmp 15) (iq 1)),mq 5 16])))
def dk28_0 : Keep := ⟨[],[0,1,5],[]⟩
def dc28 : DFunc := ⟨26,2,[.tmp 4],sq [oq 4 (.mov (bq false))] (.seq (sq [mq 6 0,oq 7 (.len (.tmp 6)),mq 8 1,oq 9 (.len (.tmp 8)),oq 10 (.bin .neq (.tmp 7) (.tmp 9))] (.cond (.tmp 10) (sq [oq 4 (.mov (bq false))] .ret) .skip)) (.seq (sq [oq 5 (.mov (iq 0))] (.block 0 (some ⟨[],[],[]⟩) (.loop dk28_0 db28_0))) (sq [oq 4 (.mov (bq true))] .ret)))⟩
theorem dh28:cProg Go.Proofs.Tryz.prog ⟨[(0,⟨[],[0,1,5],[]⟩)],[(0,⟨[],[],[]⟩)],[]⟩ 28=some dc28:=by kernel_rfl
def dc29 : DFunc := ⟨22,2,[.tmp 4,.tmp 5],sq [oq 4 (.mov (.const (.slice none 0 0))),oq 5 (.mov (iq 0))] (.seq (sq [mq 9 0,mq 10 1,oq 11 (.call (.func 101) [.tmp 9,.tmp 10]),mq 6 11] (sq [mq 12 6,oq 13 (.bin .neq (.tmp 12) (iq 0))] (.cond (.tmp 13) (sq [mq 14 6,oq 4 (.mov (.const (.slice none 0 0))),mq 5 14] .ret) .skip))) (sq [mq 16 0,mq 17 1,oq 18 (.call (.func 102) [.tmp 16,.tmp 17]),mq 15 18,oq 19 (.extract (.tmp 15) 0),oq 20 (.extract (.tmp 15) 1),mq 7 19,mq 8 20] (sq [mq 21 7,mq 4 21,oq 5 (.mov (iq 0))] .ret)))⟩
theorem dh29:cProg Go.Proofs.Tryz.prog ⟨[],[],[]⟩ 29=some dc29:=by kernel_rfl
def dc30 : DFunc := ⟨22,2,[.tmp 4,.tmp 5],sq [oq 4 (.mov (.const (.slice none 0 0))),oq 5 (.mov (iq 0))] (.seq (sq [mq 9 0,mq 10 1,oq 11 (.call (.func 101) [.tmp 9,.tmp 10]),mq 6 11] (sq [mq 12 6,oq 13 (.bin .neq (.tmp 12) (iq 0))] (.cond (.tmp 13) (sq [mq 14 6,oq 4 (.mov (.const (.slice none 0 0))),mq 5 14] .ret) .skip))) (sq [mq 16 0,mq 17 1,oq 18 (.call (.func 102) [.tmp 16,.tmp 17]),mq 15 18,oq 19 (.extract (.tmp 15) 0),oq 20 (.extract (.tmp 15) 1),mq 7 19,mq 8 20] (sq [mq 21 8,mq 4 21,oq 5 (.mov (iq 0))] .ret)))⟩
theorem dh30:cProg Go.Proofs.Tryz.prog ⟨[],[],[]⟩ 30=some dc30:=by kernel_rfl
def db31_0 : DC := (sq [oq 24 (.bin .lss (.tmp 23) (.tmp 22))] (.seq (.cond (.tmp 24) .skip (.exit 0)) (.seq (.block 1 none (sq [mq 25 23,oq 26 (.iaddr 1 (.tmp 21) (.tmp 23)),oq 27 (.load none (.tmp 26)),mq 8 25,mq 9 27] (pq [mq 28 7,mq 29 8,oq 30 (.iaddr 1 (.tmp 28) (.tmp 29)),oq 31 (.load none (.tmp 30)),mq 32 9,oq 33 (.bin .sub (.tmp 31) (.tmp 32)),oq 34 (.iaddr 1 (.tmp 28) (.tmp 29)),nq (.store 1 (.tmp 34) (.tmp 33))]))) (pq [oq 35 (.bin .add (.tmp 23) (iq 1)),mq 23 35]))))
def dk31_0 : Keep := ⟨[],[7,21,22,23],[17]⟩
def dc31 : DFunc := ⟨37,2,[.tmp 4,.tmp 5],sq [oq 4 (.mov (.const (.slice none 0 0))),oq 5 (.mov (iq 0))] (.seq (sq [mq 10 0,mq 11 1,oq 12 (.call (.func 101) [.tmp 10,.tmp 11]),mq 6 12] (sq [mq 13 6,oq 14 (.bin .neq (.tmp 13) (iq 0))] (.cond (.tmp 14) (sq [mq 15 6,oq 4 (.mov (.const (.slice none 0 0))),mq 5 15] .ret) .skip))) (sq [mq 16 0,oq 17 (.call (.func 103) [.tmp 16]),mq 7 17] (.seq (sq [mq 18 1,mq 19 0,oq 20 (.len (.tmp 19)),oq 21 (.call (.func 82) [.tmp 18,.tmp 20]),oq 22 (.len (.tmp 21)),oq 23 (.mov (iq 0))] (.block 0 (some ⟨[],[7],[17]⟩) (.loop dk31_0 db31_0))) (sq [mq 36 7,mq 4 36,oq 5 (.mov (iq 0))] .ret))))⟩
theorem dh31:cProg Go.Proofs.Tryz.prog ⟨[(0,⟨[],[7,21,22,23],[17]⟩)],[(0,⟨[],[7],[17]⟩)],[]⟩ 31=some dc31:=by kernel_rfl
def db32_0 : DC := (sq [oq 27 (.bin .lss (.tmp 26) (.tmp 25))] (.seq (.cond (.tmp 27) .skip (.exit 0)) (.seq (.block 1 none (sq [mq 28 26,oq 29 (.iaddr 1 (.tmp 24) (.tmp 26)),oq 30 (.load none (.tmp 29)),mq 10 28,mq 11 30] (pq [mq 31 7,mq 32 11,mq 33 1,mq 34 10,oq 35 (.iaddr 4 (.tmp 33) (.tmp 34)),oq 36 (.faddr 3 1 false (.tmp 35)),oq 37 (.load none (.tmp 36)),oq 38 (.bin .mul (.tmp 32) (.tmp 37)),oq 39 (.bin .add (.tmp 31) (.tmp 38)),mq 7 39]))) (pq [oq 40 (.bin .add (.tmp 26) (iq 1)),mq 26 40]))))
def dk32_0 : Keep := ⟨[],[1,7,24,25,26],[]⟩
def dc32 : DFunc := ⟨42,2,[.tmp 4,.tmp 5],sq [oq 4 (.mov (iq 0)),oq 5 (.mov (iq 0))] (.seq (sq [mq 12 0,mq 13 1,oq 14 (.call (.func 101) [.tmp 12,.tmp 13]),mq 6 14] (sq [mq 15 6,oq 16 (.bin .neq (.tmp 15) (iq 0))] (.cond (.tmp 16) (sq [mq 17 6,oq 4 (.mov (iq 0)),mq 5 17] .ret) .skip))) (sq [oq 7 (.mov (iq 0))] (sq [mq 19 0,mq 20 1,oq 21 (.call (.func 102) [.tmp 19,.tmp 20]),mq 18 21,oq 22 (.extract (.tmp 18) 0),oq 23 (.extract (.tmp 18) 1),mq 8 22,mq 9 23] (.seq (sq [mq 24 8,oq 25 (.len (.tmp 24)),oq 26 (.mov (iq 0))] (.block 0 (some ⟨[],[7],[]⟩) (.loop dk32_0 db32_0))) (sq [mq 41 7,mq 4 41,oq 5 (.mov (iq 0))] .ret)))))⟩
theorem dh32:cProg Go.Proofs.Tryz.prog ⟨[(0,⟨[],[1,7,24,25,26],[]⟩)],[(0,⟨[],[7],[]⟩)],[]⟩ 32=some dc32:=by kernel_rfl
def dc37 : DFunc := ⟨35,4,[.tmp 8,.tmp 9],sq [oq 4 (.box 5 (.tmp 0)),oq 8 (.mov (iq 0)),oq 9 (.mov (iq 0))] (.seq (.seq (.ops true [oq 11 (.load (some 5) (.tmp 4)),⟨some 12,.call (.func 49) [.tmp 11],none,[0]⟩,mq 13 1,⟨some 14,.call (.func 100) [.tmp 13],none,[2,1,0]⟩,oq 15 (.load (some 5) (.tmp 4)),mq 16 2,⟨some 17,.call (.func 104) [.tmp 15,.tmp 16],none,[4,5,3,2,1,0]⟩,oq 18 (.load (some 5) (.tmp 4)),mq 19 3,⟨some 20,.call (.func 104) [.tmp 18,.tmp 19],none,[7,8,6,4,5,3,2,1,0]⟩,⟨some 21,.lit true 1 4 (.int .i64 0) [(0,(.tmp 12)),(1,(.tmp 14)),(2,(.tmp 17)),(3,(.tmp 20))],none,[1,0,3,2,6,4,5,9,7,8]⟩,⟨some 22,.call (.func 81) [.tmp 21],none,[10,1,0,3,2,6,4,5,9,7,8]⟩,⟨some 10,.mov (.tmp 22),none,[11,10,1,0,3,2,6,4,5,9,7,8]⟩]) (sq [mq 23 10,oq 24 (.bin .neq (.tmp 23) (iq 0))] (.cond (.tmp 24) (sq [mq 25 10,oq 8 (.mov (iq 0)),mq 9 25] .ret) .skip))) (.seq (sq [oq 26 (.load (some 5) (.tmp 4)),mq 27 2,mq 28 3,oq 29 (.call (.func 105) [.tmp 26,.tmp 27,.tmp 28])] (.cond (.tmp 29) (sq [oq 8 (.mov (iq 0)),oq 9 (.mov (iq 21))] .ret) .skip)) (sq [oq 30 (.load (some 5) (.tmp 4)),mq 31 1,mq 32 2,mq 33 3,oq 34 (.call (.func 106) [.tmp 30,.tmp 31,.tmp 32,.tmp 33]),mq 8 34,oq 9 (.mov (iq 0))] .ret)))⟩
theorem dh37:cProg Go.Proofs.Tryz.prog ⟨[],[],[21]⟩ 37=some dc37:=by kernel_rfl
def db38_0 : DC := (sq [oq 31 (.bin .lss (.tmp 30) (.tmp 29))] (.seq (.cond (.tmp 31) .skip (.exit 0)) (.seq (.block 1 none (sq [oq 32 (.iaddr 1 (.tmp 28) (.tmp 30)),oq 33 (.load none (.tmp 32)),mq 10 33] (.seq (sq [oq 34 (.load (some 5) (.tmp 3)),mq 35 10,oq 36 (.call (.func 104) [.tmp 34,.tmp 35]),mq 11 36] (sq [mq 37 11,oq 38 (.bin .neq (.tmp 37) (iq 0))] (.cond (.tmp 38) (sq [mq 39 11,mq 6 39] .ret) .skip))) (.seq (sq [oq 40 (.load (some 5) (.tmp 3)),mq 41 8,mq 42 10,oq 43 (.call (.func 105) [.tmp 40,.tmp 41,.tmp 42])] (.cond (.tmp 43) (sq [oq 6 (.mov (iq 21))] .ret) .skip)) (pq [mq 44 10,mq 8 44]))))) (pq [oq 45 (.bin .add (.tmp 30) (iq 1)),mq 30 45]))))
def dk38_0 : Keep := ⟨[],[3,8,28,29,30],[3,21]⟩
def dc38 : DFunc := ⟨46,3,[.tmp 6],sq [oq 3 (.box 5 (.tmp 0)),oq 6 (.mov (iq 0))] (.seq (sq [oq 12 (.load (some 5) (.tmp 3)),mq 13 1,oq 14 (.call (.func 107) [.tmp 12,.tmp 13]),mq 15 2,oq 16 (.len (.tmp 15)),mq 17 1,oq 18 (.len (.tmp 17)),oq 19 (.bin .neq (.tmp 16) (.tmp 18)),oq 20 (.call (.func 84) [.tmp 19,iq 2]),oq 21 (.lit true 1 2 (.int .i64 0) [(0,(.tmp 14)),(1,(.tmp 20))]),oq 22 (.call (.func 81) [.tmp 21]),mq 7 22] (sq [mq 23 7,oq 24 (.bin .neq (.tmp 23) (iq 0))] (.cond (.tmp 24) (sq [mq 25 7,mq 6 25] .ret) .skip))) (sq [oq 26 (.faddr 4 1 false (.tmp 3)),oq 27 (.load none (.tmp 26)),mq 8 27] (.seq (sq [mq 28 2,oq 29 (.len (.tmp 28)),oq 30 (.mov (iq 0))] (.block 0 (some ⟨[],[],[3,21]⟩) (.loop dk38_0 db38_0))) (sq [oq 6 (.mov (iq 0))] .ret))))⟩
theorem dh38:cProg Go.Proofs.Tryz.prog ⟨[(0,⟨[],[3,8,28,29,30],[3,21]⟩)],[(0,⟨[],[],[3,21]⟩)],[21]⟩ 38=some dc38:=by kernel_rfl
def dc39 : DFunc := ⟨20,3,[.tmp 6,.tmp 7],sq [oq 3 (.box 5 (.tmp 0)),oq 6 (.mov (iq 0)),oq 7 (.mov (iq 0))] (.seq (sq [oq 9 (.load (some 5) (.tmp 3)),mq 10 1,mq 11 2,oq 12 (.call (.func 38) [.tmp 9,.tmp 10,.tmp 11]),mq 8 12] (sq [mq 13 8,oq 14 (.bin .neq (.tmp 13) (iq 0))] (.cond (.tmp 14) (sq [mq 15 8,oq 6 (.mov (iq 0)),mq 7 15] .ret) .skip))) (sq [oq 16 (.load (some 5) (.tmp 3)),mq 17 1,mq 18 2,oq 19 (.call (.func 108) [.tmp 16,.tmp 17,.tmp 18]),mq 6 19,oq 7 (.mov (iq 0))] .ret))⟩
theorem dh39:cProg Go.Proofs.Tryz.prog ⟨[],[],[]⟩ 39=some dc39:=by kernel_rfl
def db40_0x : DC := (sq [mq 10 22] (pq [mq 11 23]))
def db40_0 : DC := (.block 1 none (pq [oq 24 (.load none (.tmp 9)),mq 25 10,mq 26 11,oq 27 (.bin .sub (.tmp 25) (.tmp 26)),oq 28 (.minmax true (iq 0) [.tmp 27]),oq 29 (.bin .add (.tmp 24) (.tmp 28)),nq (.store 1 (.tmp 9) (.tmp 29))]))
def dk40_0 : Keep := ⟨[],[6,7,9],[3,9]⟩
def dc40 : DFunc := ⟨31,3,[.tmp 6,.tmp 7],sq [oq 3 (.box 5 (.tmp 0)),oq 6 (.mov (iq 0)),oq 7 (.mov (iq 0))] (.seq (sq [oq 12 (.load (some 5) (.tmp 3)),mq 13 1,mq 14 2,oq 15 (.call (.func 38) [.tmp 12,.tmp 13,.tmp 14]),mq 8 15] (sq [mq 16 8,oq 17 (.bin .neq (.tmp 16) (iq 0))] (.cond (.tmp 17) (sq [mq 18 8,oq 6 (.mov (iq 0)),mq 7 18] .ret) .skip))) (sq [oq 9 (.alloc (.int .i64 0) 1),nq (.store 1 (.tmp 9) (iq 0))] (.seq (sq [oq 19 (.load (some 5) (.tmp 3)),mq 20 2,oq 21 (.call (.func 109) [.tmp 19,.tmp 20])] (.block 0 (some ⟨[],[9],[3,9]⟩) (.rangeF dk40_0 (.tmp 21) [22,23] db40_0x db40_0))) (sq [oq 30 (.load none (.tmp 9)),mq 6 30,oq 7 (.mov (iq 0))] .ret))))⟩
theorem dh40:cProg Go.Proofs.Tryz.prog ⟨[(0,⟨[],[6,7,9],[3,9]⟩)],[(0,⟨[],[9],[3,9]⟩)],[]⟩ 40=some dc40:=by kernel_rfl
def dc49 : DFunc := ⟨22,1,[.tmp 2],sq [oq 1 (.box 5 (.tmp 0)),oq 2 (.mov (iq 0))] (.seq (.ops true [oq 3 (.faddr 0 1 false (.tmp 1)),⟨some 4,.load none (.tmp 3),none,[0]⟩,⟨some 5,.call (.func 99) [.tmp 4,iq 1,iq 24],none,[1,0]⟩,oq 6 (.faddr 1 1 false (.tmp 1)),⟨some 7,.load none (.tmp 6),none,[3]⟩,⟨some 8,.call (.func 99) [.tmp 7,iq 1,iq 24],none,[4,3,2,1,0]⟩,oq 9 (.faddr 2 1 false (.tmp 1)),⟨some 10,.load none (.tmp 9),none,[6]⟩,⟨some 11,.call (.func 99) [.tmp 10,iq 0,iq 1000],none,[7,6,5,4,3,2,1,0]⟩,oq 12 (.faddr 3 1 false (.tmp 1)),⟨some 13,.load none (.tmp 12),none,[9]⟩,⟨some 14,.call (.func 99) [.tmp 13,iq 0,iq 100000],none,[10,9,8,7,6,5,4,3,2,1,0]⟩,oq 15 (.faddr 4 1 false (.tmp 1)),⟨some 16,.load none (.tmp 15),none,[12]⟩,oq 17 (.faddr 0 1 false (.tmp 1)),⟨some 18,.load none (.tmp 17),none,[14]⟩,⟨some 19,.call (.func 99) [.tmp 16,iq 0,.tmp 18],none,[13,12,15,14,11,10,9,8,7,6,5,4,3,2,1,0]⟩,⟨some 20,.lit true 1 5 (.int .i64 0) [(0,(.tmp 5)),(1,(.tmp 8)),(2,(.tmp 11)),(3,(.tmp 14)),(4,(.tmp 19))],none,[2,1,0,5,4,3,8,7,6,11,10,9,16,13,12,15,14]⟩,⟨some 21,.call (.func 81) [.tmp 20],none,[17,2,1,0,5,4,3,8,7,6,11,10,9,16,13,12,15,14]⟩,⟨some 2,.mov (.tmp 21),none,[18,17,2,1,0,5,4,3,8,7,6,11,10,9,16,13,12,15,14]⟩]) .ret)⟩
theorem dh49:cProg Go.Proofs.Tryz.prog ⟨[],[],[20]⟩ 49=some dc49:=by kernel_rfl
def dc51 : DFunc := ⟨37,2,[.tmp 4,.tmp 5,.tmp 6],sq [oq 2 (.box 5 (.tmp 0)),oq 4 (.mov (.const (.slice none 0 0))),oq 5 (.mov (iq 0)),oq 6 (.mov (iq 0))] (.seq (sq [oq 11 (.load (some 5) (.tmp 2)),mq 12 1,oq 13 (.call (.func 107) [.tmp 11,.tmp 12]),mq 7 13] (sq [mq 14 7,oq 15 (.bin .neq (.tmp 14) (iq 0))] (.cond (.tmp 15) (sq [mq 16 7,oq 4 (.mov (.const (.slice none 0 0))),oq 5 (.mov (iq 0)),mq 6 16] .ret) .skip))) (sq [oq 17 (.faddr 4 1 false (.tmp 2)),oq 18 (.load none (.tmp 17)),oq 19 (.lit true 1 1 (.int .i64 0) [(0,(.tmp 18))]),mq 20 1,oq 21 (.len (.tmp 20)),oq 22 (.call (.func 112) [.tmp 19,.tmp 21]),oq 23 (.build [.full []] [(0,(1,(.tmp 22)))]),oq 24 (.build [.full [],.int .i64 0] [(0,(1,(.tmp 23)))]),oq 8 (.alloc (.agg [.full [],.int .i64 0]) 2),nq (.store 2 (.tmp 8) (.tmp 24))] (sq [oq 9 (.mov (.func 113))] (.seq (.ops true [oq 25 (.load (some 5) (.tmp 2)),mq 26 1,⟨some 27,.call (.func 115) [.tmp 25,.tmp 26],none,[0,1]⟩,oq 28 (.load (some 2) (.tmp 8)),⟨some 29,.lit true 2 2 (.agg [.full [],.int .i64 0]) [(0,(.tmp 27)),(1,(.tmp 28))],none,[2,0,1,3]⟩,mq 30 9,⟨some 31,.call (.func 114) [.tmp 29,.tmp 30],none,[4,2,0,1,3,5]⟩,oq 10 (.alloc (.agg [.full [],.int .i64 0]) 2),⟨none,.store 2 (.tmp 10) (.tmp 31),none,[7,6,4,2,0,1,3,5]⟩]) (.seq (.ops true [oq 32 (.faddr 0 1 true (.tmp 10)),⟨some 33,.faddr 0 1 false (.tmp 32),none,[0]⟩,⟨some 34,.load none (.tmp 33),none,[1,0]⟩,oq 35 (.faddr 1 1 false (.tmp 10)),⟨some 36,.load none (.tmp 35),none,[3]⟩,⟨some 4,.mov (.tmp 34),none,[2,1,0]⟩,⟨some 5,.mov (.tmp 36),none,[4,3,5,2,1,0]⟩,⟨some 6,.mov (iq 0),none,[6,4,3,5,2,1,0]⟩]) .ret)))))⟩
theorem dh51:cProg Go.Proofs.Tryz.prog ⟨[],[],[19,29]⟩ 51=some dc51:=by kernel_rfl
def dc52 : DFunc := ⟨16,2,[.tmp 4,.tmp 5],sq [oq 2 (.box 5 (.tmp 0)),oq 4 (.mov (.const (.slice none 0 0))),oq 5 (.mov (iq 0))] (.seq (sq [oq 7 (.load (some 5) (.tmp 2)),mq 8 1,oq 9 (.call (.func 107) [.tmp 7,.tmp 8]),mq 6 9] (sq [mq 10 6,oq 11 (.bin .neq (.tmp 10) (iq 0))] (.cond (.tmp 11) (sq [mq 12 6,oq 4 (.mov (.const (.slice none 0 0))),mq 5 12] .ret) .skip))) (sq [oq 13 (.load (some 5) (.tmp 2)),mq 14 1,oq 15 (.call (.func 116) [.tmp 13,.tmp 14]),mq 4 15,oq 5 (.mov (iq 0))] .ret))⟩
theorem dh52:cProg Go.Proofs.Tryz.prog ⟨[],[],[]⟩ 52=some dc52:=by kernel_rfl
def db53_0 : DC := (sq [oq 85 (.bin .lss (.tmp 84) (.tmp 83))] (.seq (.cond (.tmp 85) .skip (.exit 4)) (.seq (.block 5 none (sq [mq 86 84,oq 87 (.iaddr 1 (.tmp 82) (.tmp 84)),oq 88 (.load none (.tmp 87)),mq 16 86,mq 17 88] (sq [oq 89 (.load (some 5) (.tmp 4)),mq 90 14,mq 91 16,oq 92 (.call (.func 105) [.tmp 89,.tmp 90,.tmp 91]),oq 93 (.un .not (.tmp 92)),mq 94 93,gq 95 (.mov (.tmp 15)) 94 true,gq 96 (.load (some 5) (.tmp 4)) 94 true,gq 97 (.mov (.tmp 13)) 94 true,gq 98 (.mov (.tmp 14)) 94 true,gq 99 (.mov (.tmp 16)) 94 true,gq 100 (.call (.func 106) [.tmp 96,.tmp 97,.tmp 98,.tmp 99]) 94 true,gq 101 (.mov (.tmp 17)) 94 true,gq 102 (.bin .add (.tmp 100) (.tmp 101)) 94 true,gq 103 (.bin .lss (.tmp 95) (.tmp 102)) 94 true,oq 104 (.pick (.tmp 94) (.tmp 103) (bq false))] (.cond (.tmp 104) (sq [oq 8 (.mov (iq 19))] .ret) .skip)))) (pq [oq 105 (.bin .add (.tmp 84) (iq 1)),mq 84 105]))))
def dk53_0 : Keep := ⟨[],[2,4,12,13,14,15,61,62,63,71,72,73,82,83,84],[4,28]⟩
def db53_1 : DC := (sq [oq 74 (.bin .lss (.tmp 73) (.tmp 72))] (.seq (.cond (.tmp 74) .skip (.exit 2)) (.seq (.block 3 (some ⟨[],[2,4,12,13,61,62,63,71,72,73],[4,28]⟩) (sq [mq 75 73,oq 76 (.iaddr 1 (.tmp 71) (.tmp 73)),oq 77 (.load none (.tmp 76)),mq 14 75,mq 15 77] (sq [mq 78 2,mq 79 12,oq 80 (.bin .add (.tmp 79) (iq 1)),oq 81 (.iaddr 1 (.tmp 78) (.tmp 80)),oq 82 (.load none (.tmp 81)),oq 83 (.len (.tmp 82)),oq 84 (.mov (iq 0))] (.block 4 (some ⟨[],[2,4,12,13,61,62,63,71,72,73],[4,28]⟩) (.loop dk53_0 db53_0))))) (pq [oq 106 (.bin .add (.tmp 73) (iq 1)),mq 73 106]))))
def dk53_1 : Keep := ⟨[],[2,4,12,13,61,62,63,71,72,73],[4,28]⟩
def db53_2 : DC := (sq [oq 64 (.bin .lss (.tmp 63) (.tmp 62))] (.seq (.cond (.tmp 64) .skip (.exit 0)) (.seq (.block 1 (some ⟨[],[2,4,61,62,63],[4,28]⟩) (sq [mq 65 63,oq 66 (.iaddr 1 (.tmp 61) (.tmp 63)),oq 67 (.load none (.tmp 66)),mq 12 65,mq 13 67] (sq [mq 68 2,mq 69 12,oq 70 (.iaddr 1 (.tmp 68) (.tmp 69)),oq 71 (.load none (.tmp 70)),oq 72 (.len (.tmp 71)),oq 73 (.mov (iq 0))] (.block 2 (some ⟨[],[2,4,61,62,63],[4,28]⟩) (.loop dk53_1 db53_1))))) (pq [oq 107 (.bin .add (.tmp 63) (iq 1)),mq 63 107]))))
def dk53_2 : Keep := ⟨[],[2,4,61,62,63],[4,28]⟩
def dc53 : DFunc := ⟨108,4,[.tmp 8],sq [oq 4 (.box 5 (.tmp 0)),oq 8 (.mov (iq 0))] (.seq (sq [oq 18 (.load (some 5) (.tmp 4)),mq 19 1,oq 20 (.call (.func 107) [.tmp 18,.tmp 19]),mq 21 2,oq 22 (.len (.tmp 21)),mq 23 1,oq 24 (.len (.tmp 23)),oq 25 (.bin .add (.tmp 24) (iq 1)),oq 26 (.bin .neq (.tmp 22) (.tmp 25)),oq 27 (.call (.func 84) [.tmp 26,iq 2]),oq 28 (.lit true 1 2 (.int .i64 0) [(0,(.tmp 20)),(1,(.tmp 27))]),oq 29 (.call (.func 81) [.tmp 28]),mq 9 29] (sq [mq 30 9,oq 31 (.bin .neq (.tmp 30) (iq 0))] (.cond (.tmp 31) (sq [mq 32 9,mq 8 32] .ret) .skip))) (.seq (sq [mq 33 2,oq 34 (.mkfunc 118 [.tmp 4]),oq 35 (.call (.func 117) [.tmp 33,.tmp 34])] (.cond (.tmp 35) (sq [oq 8 (.mov (iq 2))] .ret) .skip)) (sq [oq 10 (.mov (.func 119))] (.seq (sq [mq 36 2,oq 37 (.call (.func 120) [.tmp 36]),mq 38 10,oq 39 (.call (.func 85) [.tmp 37,.tmp 38]),oq 40 (.call (.func 81) [.tmp 39]),mq 11 40] (sq [mq 41 11,oq 42 (.bin .neq (.tmp 41) (iq 0))] (.cond (.tmp 42) (sq [mq 43 11,mq 8 43] .ret) .skip))) (.seq (.seq (.ops true [mq 44 2,mq 45 1,⟨some 46,.len (.tmp 45),none,[1]⟩,⟨some 47,.iaddr 1 (.tmp 44) (.tmp 46),none,[0,2,1]⟩,⟨some 48,.load none (.tmp 47),none,[3,0,2,1]⟩,⟨some 49,.call (.func 121) [.tmp 48,.func 122],none,[4,3,0,2,1]⟩,⟨some 50,.mov (.tmp 49),none,[5,4,3,0,2,1]⟩,⟨some 51,.mov (.tmp 2),some (50,false),[6,5,4,3,0,2,1]⟩,⟨some 52,.iaddr 1 (.tmp 51) (iq 0),some (50,false),[7,6,5,4,3,0,2,1]⟩,⟨some 53,.load none (.tmp 52),some (50,false),[8,7,6,5,4,3,0,2,1]⟩,⟨some 54,.faddr 4 1 false (.tmp 4),some (50,false),[6,5,4,3,0,2,1]⟩,⟨some 55,.load none (.tmp 54),some (50,false),[10,6,5,4,3,0,2,1]⟩,⟨some 56,.iaddr 1 (.tmp 53) (.tmp 55),some (50,false),[9,8,7,6,5,4,3,0,2,1,11,10]⟩,⟨some 57,.load none (.tmp 56),some (50,false),[12,9,8,7,6,5,4,3,0,2,1,11,10]⟩,⟨some 58,.mov (.tmp 3),some (50,false),[6,5,4,3,0,2,1]⟩,⟨some 59,.bin .neq (.tmp 57) (.tmp 58),some (50,false),[13,12,9,8,7,6,5,4,3,0,2,1,11,10,14]⟩,⟨some 60,.pick (.tmp 50) (bq true) (.tmp 59),none,[6,5,4,3,0,2,1,15,13,12,9,8,7,11,10,14]⟩]) (.cond (.tmp 60) (sq [oq 8 (.mov (iq 19))] .ret) .skip)) (.seq (sq [mq 61 1,oq 62 (.len (.tmp 61)),oq 63 (.mov (iq 0))] (.block 0 (some ⟨[],[],[4,28]⟩) (.loop dk53_2 db53_2))) (sq [oq 8 (.mov (iq 0))] .ret)))))))⟩
theorem dh53:cProg Go.Proofs.Tryz.prog ⟨[(0,⟨[],[2,4,61,62,63],[4,28]⟩),(2,⟨[],[2,4,12,13,61,62,63,71,72,73],[4,28]⟩),(4,⟨[],[2,4,12,13,14,15,61,62,63,71,72,73,82,83,84],[4,28]⟩)],[(4,⟨[],[2,4,12,13,61,62,63,71,72,73],[4,28]⟩),(3,⟨[],[2,4,12,13,61,62,63,71,72,73],[4,28]⟩),(2,⟨[],[2,4,61,62,63],[4,28]⟩),(1,⟨[],[2,4,61,62,63],[4,28]⟩),(0,⟨[],[],[4,28]⟩)],[28]⟩ 53=some dc53:=by kernel_rfl
def db60_0 : DC := (.seq (sq [mq 11 5,mq 12 0,oq 13 (.len (.tmp 12)),oq 14 (.bin .lss (.tmp 11) (.tmp 13))] (.cond (.tmp 14) .skip (.exit 0))) (.seq (.block 1 none (.seq (.ops true [mq 17 0,mq 18 5,⟨some 19,.iaddr 1 (.tmp 17) (.tmp 18),none,[0,1]⟩,⟨some 20,.load none (.tmp 19),none,[2,0,1]⟩,mq 21 1,mq 22 5,⟨some 23,.iaddr 1 (.tmp 21) (.tmp 22),none,[4,5]⟩,⟨some 24,.load none (.tmp 23),none,[6,4,5]⟩,⟨some 25,.call (.func 28) [.tmp 20,.tmp 24],none,[3,2,0,1,7,6,4,5]⟩,⟨some 26,.un .not (.tmp 25),none,[8,3,2,0,1,7,6,4,5]⟩]) (.cond (.tmp 26) (sq [oq 4 (.mov (bq false))] .ret) .skip))) (pq [mq 15 5,oq 16 (.bin .add (.tmp 15) (iq 1)),mq 5 16])))
def dk60_0 : Keep := ⟨[],[0,1,5],[]⟩
def dc60 : DFunc := ⟨27,2,[.tmp 4],sq [oq 4 (.mov (bq false))] (.seq (sq [mq 6 0,oq 7 (.len (.tmp 6)),mq 8 1,oq 9 (.len (.tmp 8)),oq 10 (.bin .neq (.tmp 7) (.tmp 9))] (.cond (.tmp 10) (sq [oq 4 (.mov (bq false))] .ret) .skip)) (.seq (sq [oq 5 (.mov (iq 0))] (.block 0 (some ⟨[],[],[]⟩) (.loop dk60_0 db60_0))) (sq [oq 4 (.mov (bq true))] .ret)))⟩
theorem dh60:cProg Go.Proofs.Tryz.prog ⟨[(0,⟨[],[0,1,5],[]⟩)],[(0,⟨[],[],[]⟩)],[]⟩ 60=some dc60:=by kernel_rfl
end Sh

namespace Sh
open Go
def db61_0 : DC := (.seq (sq [mq 30 10,mq 31 1,oq 32 (.bin .lss (.tmp 30) (.tmp 31))] (.cond (.tmp 32) .skip (.exit 2))) (.seq (.block 3 none (pq [mq 35 7,mq 36 10,oq 37 (.faddr 1 1 false (.tmp 9)),oq 38 (.load none (.tmp 37)),oq 39 (.iaddr 1 (.tmp 35) (.tmp 36)),nq (.store 1 (.tmp 39) (.tmp 38))])) (pq [mq 33 10,oq 34 (.bin .add (.tmp 33) (iq 1)),mq 10 34])))
def dk61_0 : Keep := ⟨[],[1,7,9,10,22,23,24],[9,15,21]⟩
def db61_1 : DC := (sq [oq 25 (.bin .lss (.tmp 24) (.tmp 23))] (.seq (.cond (.tmp 25) .skip (.exit 0)) (.seq (.block 1 (some ⟨[],[1,7,22,23,24],[15,21]⟩) (sq [oq 26 (.iaddr 2 (.tmp 22) (.tmp 24)),oq 27 (.load (some 2) (.tmp 26)),oq 9 (.alloc (.agg [.int .i64 0,.int .i64 0]) 2),nq (.store 2 (.tmp 9) (.tmp 27))] (sq [oq 28 (.faddr 0 1 false (.tmp 9)),oq 29 (.load none (.tmp 28)),mq 10 29] (.block 2 (some ⟨[],[1,7,22,23,24],[9,15,21]⟩) (.loop dk61_0 db61_0))))) (pq [oq 40 (.bin .add (.tmp 24) (iq 1)),mq 24 40]))))
def dk61_1 : Keep := ⟨[],[1,7,22,23,24],[15,21]⟩
def dc61 : DFunc := ⟨42,2,[.tmp 4,.tmp 5],sq [oq 4 (.mov (.const (.slice none 0 0))),oq 5 (.mov (iq 0))] (.seq (sq [mq 11 0,oq 12 (.call (.func 70) [.tmp 11]),mq 13 1,oq 14 (.call (.func 97) [.tmp 13]),oq 15 (.lit true 1 2 (.int .i64 0) [(0,(.tmp 12)),(1,(.tmp 14))]),oq 16 (.call (.func 81) [.tmp 15]),mq 6 16] (sq [mq 17 6,oq 18 (.bin .neq (.tmp 17) (iq 0))] (.cond (.tmp 18) (sq [mq 19 6,oq 4 (.mov (.const (.slice none 0 0))),mq 5 19] .ret) .skip))) (sq [mq 20 1,oq 21 (.mkslice 1 (.int .i64 0) (.tmp 20) (.tmp 20)),mq 7 21] (.seq (sq [mq 22 0,oq 23 (.len (.tmp 22)),oq 24 (.mov (iq 0))] (.block 0 (some ⟨[],[7],[15,21]⟩) (.loop dk61_1 db61_1))) (sq [mq 41 7,mq 4 41,oq 5 (.mov (iq 0))] .ret))))⟩
theorem dh61:cProg Go.Proofs.Tryz.prog ⟨[(0,⟨[],[1,7,22,23,24],[15,21]⟩),(2,⟨[],[1,7,9,10,22,23,24],[9,15,21]⟩)],[(2,⟨[],[1,7,22,23,24],[9,15,21]⟩),(1,⟨[],[1,7,22,23,24],[15,21]⟩),(0,⟨[],[7],[15,21]⟩)],[15]⟩ 61=some dc61:=by kernel_rfl
def db63_0 : DC := (sq [oq 35 (.bin .lss (.tmp 34) (.tmp 33))] (.seq (.cond (.tmp 35) .skip (.exit 0)) (.seq (.block 1 none (sq [mq 36 34,oq 37 (.iaddr 1 (.tmp 32) (.tmp 34)),oq 38 (.load none (.tmp 37)),mq 11 36,mq 12 38] (sq [mq 39 12,mq 40 1,mq 41 11,oq 42 (.iaddr 1 (.tmp 40) (.tmp 41)),oq 43 (.load none (.tmp 42)),oq 44 (.bin .mul (.tmp 39) (.tmp 43)),mq 45 2,oq 46 (.bin .add (.tmp 44) (.tmp 45)),oq 47 (.call (.func 123) [.tmp 46]),oq 13 (.alloc (.agg [.int .i64 0,.int .i64 0]) 2),nq (.store 2 (.tmp 13) (.tmp 47))] (.seq (sq [oq 48 (.load (some 2) (.tmp 13)),oq 49 (.build [.int .i64 0,.int .i64 0] []),oq 50 (.eqA true [1,1] (.tmp 48) (.tmp 49))] (.cond (.tmp 50) (pq [mq 51 10,oq 52 (.iaddrA 2 1 false (.tmp 13) (iq 0)),oq 53 (.load none (.tmp 52)),oq 54 (.lit true 1 1 (.int .i64 0) [(0,(.tmp 53))]),oq 55 (.append false 1 (.tmp 51) (.tmp 54)),mq 10 55]) (pq [mq 56 10,oq 57 (.lit true 1 1 (.int .i64 0) [(0,(iq 0))]),oq 58 (.append false 1 (.tmp 56) (.tmp 57)),mq 10 58]))) (pq [oq 59 (.iaddrA 2 1 false (.tmp 13) (iq 1)),oq 60 (.load none (.tmp 59)),mq 2 60]))))) (pq [oq 61 (.bin .add (.tmp 34) (iq 1)),mq 34 61]))))
def dk63_0 : Keep := ⟨[(10,1)],[1,2,10,32,33,34],[10,27]⟩
def dc63 : DFunc := ⟨64,3,[.tmp 6,.tmp 7,.tmp 8],sq [oq 6 (.mov (.const (.slice none 0 0))),oq 7 (.mov (iq 0)),oq 8 (.mov (iq 0))] (.seq (sq [mq 14 0,oq 15 (.call (.func 83) [.tmp 14]),mq 16 1,oq 17 (.len (.tmp 16)),mq 18 0,oq 19 (.len (.tmp 18)),oq 20 (.bin .neq (.tmp 17) (.tmp 19)),oq 21 (.call (.func 84) [.tmp 20,iq 2]),mq 22 1,oq 23 (.call (.func 85) [.tmp 22,.func 100]),oq 24 (.call (.func 81) [.tmp 23]),mq 25 2,oq 26 (.call (.func 99) [.tmp 25,iq 0,iq 999]),oq 27 (.lit true 1 4 (.int .i64 0) [(0,(.tmp 15)),(1,(.tmp 21)),(2,(.tmp 24)),(3,(.tmp 26))]),oq 28 (.call (.func 81) [.tmp 27]),mq 9 28] (sq [mq 29 9,oq 30 (.bin .neq (.tmp 29) (iq 0))] (.cond (.tmp 30) (sq [mq 31 9,oq 6 (.mov (.const (.slice none 0 0))),oq 7 (.mov (iq 0)),mq 8 31] .ret) .skip))) (sq [oq 10 (.mov (.const (.slice none 0 0)))] (.seq (sq [mq 32 0,oq 33 (.len (.tmp 32)),oq 34 (.mov (iq 0))] (.block 0 (some ⟨[],[2,10],[10,27]⟩) (.loop dk63_0 db63_0))) (sq [mq 62 10,mq 63 2,mq 6 62,mq 7 63,oq 8 (.mov (iq 0))] .ret))))⟩
theorem dh63:cProg Go.Proofs.Tryz.prog ⟨[(0,⟨[(10,1)],[1,2,10,32,33,34],[10,27]⟩)],[(0,⟨[],[2,10],[10,27]⟩)],[27,54,57]⟩ 63=some dc63:=by kernel_rfl
def db70_0 : DC := (sq [oq 24 (.bin .lss (.tmp 23) (.tmp 22))] (.seq (.cond (.tmp 24) .skip (.exit 0)) (.seq (.block 1 none (sq [mq 25 23,oq 26 (.iaddr 2 (.tmp 21) (.tmp 23)),oq 27 (.load (some 2) (.tmp 26)),oq 6 (.alloc (.agg [.int .i64 0,.int .i64 0]) 2),mq 5 25,nq (.store 2 (.tmp 6) (.tmp 27))] (.seq (sq [mq 28 5,oq 29 (.bin .eql (.tmp 28) (iq 0)),mq 30 29,gq 31 (.load (some 2) (.tmp 6)) 30 true,gq 32 (.load (some 2) (.global 0)) 30 true,gq 33 (.eqA false [1,1] (.tmp 31) (.tmp 32)) 30 true,oq 34 (.pick (.tmp 30) (.tmp 33) (bq false))] (.cond (.tmp 34) (sq [oq 4 (.mov (iq 0))] (.exit 1)) .skip)) (.seq (.seq (.ops true [oq 35 (.faddr 0 1 false (.tmp 6)),⟨some 36,.load none (.tmp 35),none,[0]⟩,⟨some 37,.call (.func 99) [.tmp 36,iq 0,iq 23],none,[1,0]⟩,oq 38 (.faddr 1 1 false (.tmp 6)),⟨some 39,.load none (.tmp 38),none,[3]⟩,⟨some 40,.call (.func 100) [.tmp 39],none,[4,3,2,1,0]⟩,mq 41 5,⟨some 42,.bin .eql (.tmp 41) (iq 0),none,[6]⟩,⟨some 43,.mov (.tmp 42),none,[7,6,5,4,3,2,1,0]⟩,⟨some 44,.faddr 0 1 false (.tmp 6),some (43,true),[8,7,6,5,4,3,2,1,0]⟩,⟨some 45,.load none (.tmp 44),some (43,true),[9,8,7,6,5,4,3,2,1,0]⟩,⟨some 46,.bin .neq (.tmp 45) (iq 0),some (43,true),[10,9,8,7,6,5,4,3,2,1,0]⟩,⟨some 47,.pick (.tmp 43) (.tmp 46) (bq false),none,[8,7,6,5,4,3,2,1,0,11,10,9]⟩,⟨some 48,.mov (.tmp 47),none,[12,8,7,6,5,4,3,2,1,0,11,10,9]⟩,⟨some 49,.faddr 0 1 false (.tmp 6),some (48,false),[13,12,8,7,6,5,4,3,2,1,0,11,10,9]⟩,⟨some 50,.load none (.tmp 49),some (48,false),[14,13,12,8,7,6,5,4,3,2,1,0,11,10,9]⟩,⟨some 51,.mov (.tmp 4),some (48,false),[13,12,8,7,6,5,4,3,2,1,0,11,10,9]⟩,⟨some 52,.bin .leq (.tmp 50) (.tmp 51),some (48,false),[15,14,13,12,8,7,6,5,4,3,2,1,0,11,10,9,16]⟩,⟨some 53,.pick (.tmp 48) (bq true) (.tmp 52),none,[13,12,8,7,6,5,4,3,2,1,0,11,10,9,17,15,14,16]⟩,⟨some 54,.call (.func 84) [.tmp 53,iq 11],none,[18,13,12,8,7,6,5,4,3,2,1,0,11,10,9,17,15,14,16]⟩,⟨some 55,.lit true 1 3 (.int .i64 0) [(0,(.tmp 37)),(1,(.tmp 40)),(2,(.tmp 54))],none,[2,1,0,5,4,3,19,18,13,12,8,7,6,11,10,9,17,15,14,16]⟩,⟨some 56,.call (.func 81) [.tmp 55],none,[20,2,1,0,5,4,3,19,18,13,12,8,7,6,11,10,9,17,15,14,16]⟩,⟨some 7,.mov (.tmp 56),none,[21,20,2,1,0,5,4,3,19,18,13,12,8,7,6,11,10,9,17,15,14,16]⟩]) (sq [mq 57 7,oq 58 (.bin .neq (.tmp 57) (iq 0))] (.cond (.tmp 58) (sq [mq 59 7,mq 2 59] .ret) .skip))) (pq [oq 60 (.faddr 0 1 false (.tmp 6)),oq 61 (.load none (.tmp 60)),mq 4 61]))))) (pq [oq 62 (.bin .add (.tmp 23) (iq 1)),mq 23 62]))))
def dk70_0 : Keep := ⟨[],[4,21,22,23],[16]⟩
def dc70 : DFunc := ⟨63,1,[.tmp 2],sq [oq 2 (.mov (iq 0))] (.seq (sq [mq 8 0,oq 9 (.len (.tmp 8)),oq 10 (.bin .eql (.tmp 9) (iq 0)),oq 11 (.call (.func 84) [.tmp 10,iq 12]),mq 12 0,oq 13 (.len (.tmp 12)),oq 14 (.bin .gtr (.tmp 13) (iq 8)),oq 15 (.call (.func 84) [.tmp 14,iq 5]),oq 16 (.lit true 1 2 (.int .i64 0) [(0,(.tmp 11)),(1,(.tmp 15))]),oq 17 (.call (.func 81) [.tmp 16]),mq 3 17] (sq [mq 18 3,oq 19 (.bin .neq (.tmp 18) (iq 0))] (.cond (.tmp 19) (sq [mq 20 3,mq 2 20] .ret) .skip))) (sq [oq 4 (.mov (iq (-1)))] (.seq (sq [mq 21 0,oq 22 (.len (.tmp 21)),oq 23 (.mov (iq 0))] (.block 0 (some ⟨[],[],[16]⟩) (.loop dk70_0 db70_0))) (sq [oq 2 (.mov (iq 0))] .ret))))⟩
theorem dh70:cProg Go.Proofs.Tryz.prog ⟨[(0,⟨[],[4,21,22,23],[16]⟩)],[(0,⟨[],[],[16]⟩)],[16,55]⟩ 70=some dc70:=by kernel_rfl
def dc71 : DFunc := ⟨13,1,[.tmp 2,.tmp 3],sq [oq 2 (.mov (.const (.string ⟨#[]⟩))),oq 3 (.mov (iq 0))] (.seq (sq [mq 5 0,oq 6 (.call (.func 27) [.tmp 5,iq 24]),mq 4 6] (sq [mq 7 4,oq 8 (.bin .neq (.tmp 7) (iq 0))] (.cond (.tmp 8) (sq [mq 9 4,oq 2 (.mov (.const (.string ⟨#[]⟩))),mq 3 9] .ret) .skip))) (sq [mq 10 0,oq 11 (.call (.func 126) [.tmp 10,.func 127]),oq 12 (.call (.func 125) [.tmp 11,.const (.string ⟨#[]⟩)]),mq 2 12,oq 3 (.mov (iq 0))] .ret))⟩
theorem dh71:cProg Go.Proofs.Tryz.prog ⟨[],[],[]⟩ 71=some dc71:=by kernel_rfl
def db72_0x : DC := (pq [mq 6 19])
def db72_0 : DC := (.block 1 none (sq [mq 21 6,oq 22 (.call (.func 129) [.tmp 21,.const (.string ⟨#[10]⟩)]),mq 20 22,oq 23 (.extract (.tmp 20) 0),oq 24 (.extract (.tmp 20) 1),mq 7 23,mq 8 24] (sq [mq 25 7,oq 26 (.call (.func 130) [.tmp 25,.const (.string ⟨#[32]⟩)]),oq 27 (.build [.full [],.bool false] [(0,(1,(.tmp 26)))]),oq 28 (.box 2 (.tmp 27)),mq 9 28] (sq [mq 29 9,oq 30 (.mkmeth 131 [.tmp 29]),mq 10 30] (sq [mq 31 9,oq 32 (.call (.func 132) [.tmp 31]),mq 11 32] (sq [mq 33 9,oq 34 (.call (.func 132) [.tmp 33]),oq 35 (.build [.str [],.int .i64 0,.int .i64 0,.int .i64 0] [(0,(1,(.tmp 34)))]),oq 12 (.alloc (.agg [.str [],.int .i64 0,.int .i64 0,.int .i64 0]) 4),nq (.store 4 (.tmp 12) (.tmp 35))] (sq [mq 36 10,oq 37 (.call (.tmp 36) []),oq 38 (.faddr 1 1 false (.tmp 12)),nq (.store 1 (.tmp 38) (.tmp 37))] (sq [mq 39 10,oq 40 (.call (.tmp 39) []),oq 41 (.faddr 2 1 false (.tmp 12)),nq (.store 1 (.tmp 41) (.tmp 40))] (sq [mq 42 10,oq 43 (.call (.tmp 42) []),oq 44 (.faddr 3 1 false (.tmp 12)),nq (.store 1 (.tmp 44) (.tmp 43))] (.seq (sq [mq 45 8,oq 46 (.un .not (.tmp 45)),mq 47 46,gq 48 (.mov (.tmp 11)) 47 false,gq 49 (.iaddrA 1 1 false (.global 1) (iq 0)) 47 false,gq 50 (.load none (.tmp 49)) 47 false,gq 51 (.bin .neq (.tmp 48) (.tmp 50)) 47 false,oq 52 (.pick (.tmp 47) (bq true) (.tmp 51)),mq 53 52,gq 54 (.faddr 0 1 false (.tmp 12)) 53 false,gq 55 (.load none (.tmp 54)) 53 false,gq 56 (.bin .eql (.tmp 55) (.const (.string ⟨#[]⟩))) 53 false,oq 57 (.pick (.tmp 53) (bq true) (.tmp 56)),mq 58 57,gq 59 (.mov (.tmp 9)) 58 false,gq 60 (.nilCheck (.tmp 59)) 58 false,gq 61 (.faddr 1 1 false (.tmp 60)) 58 false,gq 62 (.load none (.tmp 61)) 58 false,oq 63 (.pick (.tmp 58) (bq true) (.tmp 62)),mq 64 63,gq 65 (.mov (.tmp 9)) 64 false,gq 66 (.nilCheck (.tmp 65)) 64 false,gq 67 (.faddr 0 1 false (.tmp 66)) 64 false,gq 68 (.load none (.tmp 67)) 64 false,gq 69 (.len (.tmp 68)) 64 false,gq 70 (.bin .gtr (.tmp 69) (iq 0)) 64 false,oq 71 (.pick (.tmp 64) (bq true) (.tmp 70))] (.cond (.tmp 71) (.seq (.ops true [oq 72 (.load none (.tmp 5)),⟨some 73,.len (.tmp 72),none,[0]⟩,nq (.store 1 (.tmp 2) (.const (.slice none 0 0))),⟨none,.store 1 (.tmp 3) (.tmp 73),none,[1,0,2]⟩,⟨none,.store 1 (.tmp 4) (iq 25),none,[3,1,0,2]⟩]) .ret) .skip)) (pq [oq 74 (.load none (.tmp 5)),oq 75 (.load (some 4) (.tmp 12)),oq 76 (.lit true 4 1 (.agg [.str [],.int .i64 0,.int .i64 0,.int .i64 0]) [(0,(.tmp 75))]),oq 77 (.append false 4 (.tmp 74) (.tmp 76)),nq (.store 1 (.tmp 5) (.tmp 77))])))))))))))
def dk72_0 : Keep := ⟨[],[2,3,4,5],[2,3,4,5,77]⟩
def dc72 : DFunc := ⟨86,1,[.cell 2 none,.cell 3 none,.cell 4 none],sq [oq 2 (.alloc (.full []) 1),oq 3 (.alloc (.int .i64 0) 1),oq 4 (.alloc (.int .i64 0) 1)] (.seq (sq [mq 14 0,oq 15 (.lenS (.tmp 14)),oq 16 (.bin .gtr (.tmp 15) (iq 4096))] (.cond (.tmp 16) (sq [nq (.store 1 (.tmp 2) (.const (.slice none 0 0))),nq (.store 1 (.tmp 3) (iq 0)),nq (.store 1 (.tmp 4) (iq 26))] .ret) .skip)) (sq [oq 5 (.alloc (.full []) 1)] (.seq (sq [mq 17 0,oq 18 (.call (.func 128) [.tmp 17])] (.block 0 (some ⟨[],[2,3,4,5],[2,3,4,5,77]⟩) (.rangeF dk72_0 (.tmp 18) [19] db72_0x db72_0))) (.seq (sq [oq 78 (.load none (.tmp 5)),oq 79 (.call (.func 27) [.tmp 78,iq 24]),mq 13 79] (sq [mq 80 13,oq 81 (.bin .neq (.tmp 80) (iq 0))] (.cond (.tmp 81) (.seq (.ops true [oq 82 (.load none (.tmp 5)),⟨some 83,.len (.tmp 82),none,[0]⟩,mq 84 13,nq (.store 1 (.tmp 2) (.const (.slice none 0 0))),⟨none,.store 1 (.tmp 3) (.tmp 83),none,[1,0,3]⟩,⟨none,.store 1 (.tmp 4) (.tmp 84),none,[2,4,1,0,3]⟩]) .ret) .skip))) (sq [oq 85 (.load none (.tmp 5)),nq (.store 1 (.tmp 2) (.tmp 85)),nq (.store 1 (.tmp 3) (iq 0)),nq (.store 1 (.tmp 4) (iq 0))] .ret)))))⟩
theorem dh72:cProg Go.Proofs.Tryz.prog ⟨[(0,⟨[],[2,3,4,5],[2,3,4,5,77]⟩)],[(0,⟨[],[2,3,4,5],[2,3,4,5,77]⟩)],[76]⟩ 72=some dc72:=by kernel_rfl
def db75_0 : DC := (.seq (sq [mq 11 5,mq 12 0,oq 13 (.len (.tmp 12)),oq 14 (.bin .lss (.tmp 11) (.tmp 13))] (.cond (.tmp 14) .skip (.exit 0))) (.seq (.block 1 none (.seq (.ops true [mq 17 0,mq 18 5,⟨some 19,.iaddr 4 (.tmp 17) (.tmp 18),none,[0,1]⟩,⟨some 20,.load (some 4) (.tmp 19),none,[2,0,1]⟩,mq 21 1,mq 22 5,⟨some 23,.iaddr 4 (.tmp 21) (.tmp 22),none,[4,5]⟩,⟨some 24,.load (some 4) (.tmp 23),none,[6,4,5]⟩,⟨some 25,.eqA true [2,1,1,1] (.tmp 20) (.tmp 24),none,[3,2,0,1,7,6,4,5]⟩]) (.cond (.tmp 25) (sq [oq 4 (.mov (bq false))] .ret) .skip))) (pq [mq 15 5,oq 16 (.bin .add (.tmp 15) (iq 1)),mq 5 16])))
def dk75_0 : Keep := ⟨[],[0,1,5],[]⟩
def dc75 : DFunc := ⟨26,2,[.tmp 4],sq [oq 4 (.mov (bq false))] (.seq (sq [mq 6 0,oq 7 (.len (.tmp 6)),mq 8 1,oq 9 (.len (.tmp 8)),oq 10 (.bin .neq (.tmp 7) (.tmp 9))] (.cond (.tmp 10) (sq [oq 4 (.mov (bq false))] .ret) .skip)) (.seq (sq [oq 5 (.mov (iq 0))] (.block 0 (some ⟨[],[],[]⟩) (.loop dk75_0 db75_0))) (sq [oq 4 (.mov (bq true))] .ret)))⟩
theorem dh75:cProg Go.Proofs.Tryz.prog ⟨[(0,⟨[],[0,1,5],[]⟩)],[(0,⟨[],[],[]⟩)],[]⟩ 75=some dc75:=by kernel_rfl
def db76_0 : DC := (sq [oq 9 (.bin .lss (.tmp 8) (.tmp 7))] (.seq (.cond (.tmp 9) .skip (.exit 0)) (.seq (.block 1 none (sq [oq 10 (.iaddr 4 (.tmp 6) (.tmp 8)),oq 11 (.load (some 4) (.tmp 10)),oq 5 (.alloc (.agg [.str [],.int .i64 0,.int .i64 0,.int .i64 0]) 4),nq (.store 4 (.tmp 5) (.tmp 11))] (pq [mq 12 3,oq 13 (.load (some 4) (.tmp 5)),oq 14 (.lit true 4 1 (.agg [.str [],.int .i64 0,.int .i64 0,.int .i64 0]) [(0,(.tmp 13))]),oq 15 (.append false 4 (.tmp 12) (.tmp 14)),mq 3 15]))) (pq [oq 16 (.bin .add (.tmp 8) (iq 1)),mq 8 16]))))
def dk76_0 : Keep := ⟨[(3,4)],[3,6,7,8],[3]⟩
def dc76 : DFunc := ⟨18,1,[.tmp 2],sq [oq 2 (.mov (.const (.slice none 0 0)))] (sq [oq 3 (.mov (.const (.slice none 0 0)))] (.seq (sq [mq 6 0,oq 7 (.len (.tmp 6)),oq 8 (.mov (iq 0))] (.block 0 (some ⟨[],[3],[3]⟩) (.loop dk76_0 db76_0))) (sq [mq 17 3,mq 2 17] .ret)))⟩
theorem dh76:cProg Go.Proofs.Tryz.prog ⟨[(0,⟨[(3,4)],[3,6,7,8],[3]⟩)],[(0,⟨[],[3],[3]⟩)],[14]⟩ 76=some dc76:=by kernel_rfl
def dc78 : DFunc := ⟨8,2,[.cell 4 (some 2)],sq [oq 4 (.alloc (.agg [.int .i64 0,.int .i64 0]) 2)] (sq [mq 5 0,mq 6 1,oq 7 (.build [.int .i64 0,.int .i64 0] [(0,(1,(.tmp 5))),(1,(1,(.tmp 6)))]),nq (.store 2 (.tmp 4) (.tmp 7))] .ret)⟩
theorem dh78:cProg Go.Proofs.Tryz.prog ⟨[],[],[]⟩ 78=some dc78:=by kernel_rfl
def dc79 : DFunc := ⟨5,0,[.tmp 0],sq [oq 0 (.mov (.const (.slice none 0 0)))] (sq [oq 1 (.build [.str [],.int .i64 0,.int .i64 0,.int .i64 0] [(0,(1,(.const (.string ⟨#[97]⟩)))),(2,(1,(iq 30))),(3,(1,(iq 500)))]),oq 2 (.build [.str [],.int .i64 0,.int .i64 0,.int .i64 0] [(0,(1,(.const (.string ⟨#[98]⟩)))),(2,(1,(iq 20))),(3,(1,(iq 400)))]),oq 3 (.build [.str [],.int .i64 0,.int .i64 0,.int .i64 0] [(0,(1,(.const (.string ⟨#[99]⟩)))),(1,(1,(iq 1))),(2,(1,(iq 50))),(3,(1,(iq (-100))))]),oq 4 (.lit true 4 3 (.agg [.str [],.int .i64 0,.int .i64 0,.int .i64 0]) [(0,(.tmp 1)),(1,(.tmp 2)),(2,(.tmp 3))]),mq 0 4] .ret)⟩
theorem dh79:cProg Go.Proofs.Tryz.prog ⟨[],[],[4]⟩ 79=some dc79:=by kernel_rfl
def dc80 : DFunc := ⟨2,0,[.cell 0 (some 5)],sq [oq 0 (.alloc (.agg [.int .i64 0,.int .i64 0,.int .i64 0,.int .i64 0,.int .i64 0]) 5)] (sq [oq 1 (.build [.int .i64 0,.int .i64 0,.int .i64 0,.int .i64 0,.int .i64 0] [(0,(1,(iq 4))),(1,(1,(iq 2))),(2,(1,(iq 500))),(3,(1,(iq 10))),(4,(1,(iq 1)))]),nq (.store 5 (.tmp 0) (.tmp 1))] .ret)⟩
theorem dh80:cProg Go.Proofs.Tryz.prog ⟨[],[],[]⟩ 80=some dc80:=by kernel_rfl
def db81_0 : DC := (sq [oq 8 (.bin .lss (.tmp 7) (.tmp 6))] (.seq (.cond (.tmp 8) .skip (.exit 0)) (.seq (.block 1 none (sq [oq 9 (.iaddr 1 (.tmp 5) (.tmp 7)),oq 10 (.load none (.tmp 9)),mq 4 10] (sq [mq 11 4,oq 12 (.bin .neq (.tmp 11) (iq 0))] (.cond (.tmp 12) (sq [mq 13 4,mq 2 13] .ret) .skip)))) (pq [oq 14 (.bin .add (.tmp 7) (iq 1)),mq 7 14]))))
def dk81_0 : Keep := ⟨[],[5,6,7],[]⟩
def dc81 : DFunc := ⟨15,1,[.tmp 2],sq [oq 2 (.mov (iq 0))] (.seq (sq [mq 5 0,oq 6 (.len (.tmp 5)),oq 7 (.mov (iq 0))] (.block 0 (some ⟨[],[],[]⟩) (.loop dk81_0 db81_0))) (sq [oq 2 (.mov (iq 0))] .ret))⟩
theorem dh81:cProg Go.Proofs.Tryz.prog ⟨[(0,⟨[],[5,6,7],[]⟩)],[(0,⟨[],[],[]⟩)],[]⟩ 81=some dc81:=by kernel_rfl
def db82_0 : DC := (sq [oq 13 (.bin .lss (.tmp 12) (.tmp 11))] (.seq (.cond (.tmp 13) .skip (.exit 0)) (.seq (.block 1 none (sq [oq 14 (.iaddr 4 (.tmp 10) (.tmp 12)),oq 15 (.load (some 4) (.tmp 14)),oq 7 (.alloc (.agg [.str [],.int .i64 0,.int .i64 0,.int .i64 0]) 4),nq (.store 4 (.tmp 7) (.tmp 15))] (.ops true [mq 16 5,oq 17 (.faddr 1 1 false (.tmp 7)),⟨some 18,.load none (.tmp 17),none,[1]⟩,⟨some 19,.iaddr 1 (.tmp 16) (.tmp 18),none,[0,2,1]⟩,⟨some 20,.load none (.tmp 19),none,[3,0,2,1]⟩,oq 21 (.faddr 2 1 false (.tmp 7)),⟨some 22,.load none (.tmp 21),none,[5]⟩,⟨some 23,.bin .add (.tmp 20) (.tmp 22),none,[4,3,0,2,1,6,5]⟩,⟨some 24,.iaddr 1 (.tmp 16) (.tmp 18),none,[0,2,1,3,4,5,6,7]⟩,⟨none,.store 1 (.tmp 24) (.tmp 23),none,[8,0,2,1,3,4,5,6,7]⟩]))) (pq [oq 25 (.bin .add (.tmp 12) (iq 1)),mq 12 25]))))
def dk82_0 : Keep := ⟨[],[5,10,11,12],[9]⟩
def dc82 : DFunc := ⟨27,2,[.tmp 4],sq [oq 4 (.mov (.const (.slice none 0 0)))] (sq [mq 8 1,oq 9 (.mkslice 1 (.int .i64 0) (.tmp 8) (.tmp 8)),mq 5 9] (.seq (sq [mq 10 0,oq 11 (.len (.tmp 10)),oq 12 (.mov (iq 0))] (.block 0 (some ⟨[],[5],[9]⟩) (.loop dk82_0 db82_0))) (sq [mq 26 5,mq 4 26] .ret)))⟩
theorem dh82:cProg Go.Proofs.Tryz.prog ⟨[(0,⟨[],[5,10,11,12],[9]⟩)],[(0,⟨[],[5],[9]⟩)],[]⟩ 82=some dc82:=by kernel_rfl
def dc83 : DFunc := ⟨11,1,[.tmp 2],sq [oq 2 (.mov (iq 0))] (sq [mq 3 0,oq 4 (.len (.tmp 3)),oq 5 (.call (.func 94) [.tmp 4]),mq 6 0,oq 7 (.call (.func 85) [.tmp 6,.func 86]),oq 8 (.call (.func 81) [.tmp 7]),oq 9 (.lit true 1 2 (.int .i64 0) [(0,(.tmp 5)),(1,(.tmp 8))]),oq 10 (.call (.func 81) [.tmp 9]),mq 2 10] .ret)⟩
theorem dh83:cProg Go.Proofs.Tryz.prog ⟨[],[],[9]⟩ 83=some dc83:=by kernel_rfl
def dc84 : DFunc := ⟨7,2,[.tmp 4],sq [oq 4 (.mov (iq 0))] (.seq (sq [mq 5 0] (.cond (.tmp 5) (sq [mq 6 1,mq 4 6] .ret) .skip)) (sq [oq 4 (.mov (iq 0))] .ret))⟩
theorem dh84:cProg Go.Proofs.Tryz.prog ⟨[],[],[]⟩ 84=some dc84:=by kernel_rfl
def db85_0 : DC := (sq [oq 11 (.bin .lss (.tmp 10) (.tmp 9))] (.seq (.cond (.tmp 11) .skip (.exit 0)) (.seq (.block 1 none (sq [oq 12 (.iaddr 1 (.tmp 8) (.tmp 10)),oq 13 (.load none (.tmp 12)),mq 7 13] (pq [mq 14 5,mq 15 1,mq 16 7,oq 17 (.call (.tmp 15) [.tmp 16]),oq 18 (.lit true 1 1 (.int .i64 0) [(0,(.tmp 17))]),oq 19 (.append false 1 (.tmp 14) (.tmp 18)),mq 5 19]))) (pq [oq 20 (.bin .add (.tmp 10) (iq 1)),mq 10 20]))))
def dk85_0 : Keep := ⟨[(5,1)],[1,5,8,9,10],[5]⟩
def dc85 : DFunc := ⟨22,2,[.tmp 4],sq [oq 4 (.mov (.const (.slice none 0 0)))] (sq [oq 5 (.mov (.const (.slice none 0 0)))] (.seq (sq [mq 8 0,oq 9 (.len (.tmp 8)),oq 10 (.mov (iq 0))] (.block 0 (some ⟨[],[5],[5]⟩) (.loop dk85_0 db85_0))) (sq [mq 21 5,mq 4 21] .ret)))⟩
theorem dh85:cProg Go.Proofs.Tryz.prog ⟨[(0,⟨[(5,1)],[1,5,8,9,10],[5]⟩)],[(0,⟨[],[5],[5]⟩)],[18]⟩ 85=some dc85:=by kernel_rfl
def dc86 : DFunc := ⟨5,1,[.tmp 2],sq [oq 2 (.mov (iq 0))] (sq [mq 3 0,oq 4 (.call (.func 99) [.tmp 3,iq 0,iq 1000000]),mq 2 4] .ret)⟩
theorem dh86:cProg Go.Proofs.Tryz.prog ⟨[],[],[]⟩ 86=some dc86:=by kernel_rfl
def dc94 : DFunc := ⟨11,1,[.tmp 2],sq [oq 2 (.mov (iq 0))] (sq [mq 3 0,oq 4 (.bin .eql (.tmp 3) (iq 0)),oq 5 (.call (.func 84) [.tmp 4,iq 12]),mq 6 0,oq 7 (.bin .gtr (.tmp 6) (iq 24)),oq 8 (.call (.func 84) [.tmp 7,iq 5]),oq 9 (.lit true 1 2 (.int .i64 0) [(0,(.tmp 5)),(1,(.tmp 8))]),oq 10 (.call (.func 81) [.tmp 9]),mq 2 10] .ret)⟩
theorem dh94:cProg Go.Proofs.Tryz.prog ⟨[],[],[9]⟩ 94=some dc94:=by kernel_rfl
def db95_0 : DC := (sq [oq 11 (.bin .lss (.tmp 10) (.tmp 9))] (.seq (.cond (.tmp 11) .skip (.exit 0)) (.seq (.block 1 none (sq [oq 12 (.iaddr 2 (.tmp 8) (.tmp 10)),oq 13 (.load (some 2) (.tmp 12)),oq 7 (.alloc (.agg [.int .i64 0,.int .i64 0]) 2),nq (.store 2 (.tmp 7) (.tmp 13))] (pq [mq 14 5,mq 15 1,oq 16 (.load (some 2) (.tmp 7)),oq 17 (.call (.tmp 15) [.tmp 16]),oq 18 (.lit true 1 1 (.int .i64 0) [(0,(.tmp 17))]),oq 19 (.append false 1 (.tmp 14) (.tmp 18)),mq 5 19]))) (pq [oq 20 (.bin .add (.tmp 10) (iq 1)),mq 10 20]))))
def dk95_0 : Keep := ⟨[(5,1)],[1,5,8,9,10],[5]⟩
def dc95 : DFunc := ⟨22,2,[.tmp 4],sq [oq 4 (.mov (.const (.slice none 0 0)))] (sq [oq 5 (.mov (.const (.slice none 0 0)))] (.seq (sq [mq 8 0,oq 9 (.len (.tmp 8)),oq 10 (.mov (iq 0))] (.block 0 (some ⟨[],[5],[5]⟩) (.loop dk95_0 db95_0))) (sq [mq 21 5,mq 4 21] .ret)))⟩
theorem dh95:cProg Go.Proofs.Tryz.prog ⟨[(0,⟨[(5,1)],[1,5,8,9,10],[5]⟩)],[(0,⟨[],[5],[5]⟩)],[18]⟩ 95=some dc95:=by kernel_rfl
def dc96 : DFunc := ⟨17,1,[.tmp 2],sq [oq 1 (.box 2 (.tmp 0)),oq 2 (.mov (iq 0))] (.seq (.ops true [oq 3 (.faddr 0 1 false (.tmp 1)),⟨some 4,.load none (.tmp 3),none,[0]⟩,⟨some 5,.call (.func 86) [.tmp 4],none,[1,0]⟩,oq 6 (.faddr 1 1 false (.tmp 1)),⟨some 7,.load none (.tmp 6),none,[3]⟩,⟨some 8,.call (.func 86) [.tmp 7],none,[4,3,2,1,0]⟩,oq 9 (.faddr 0 1 false (.tmp 1)),⟨some 10,.load none (.tmp 9),none,[6]⟩,oq 11 (.faddr 1 1 false (.tmp 1)),⟨some 12,.load none (.tmp 11),none,[8]⟩,⟨some 13,.bin .gtr (.tmp 10) (.tmp 12),none,[7,6,9,8]⟩,⟨some 14,.call (.func 84) [.tmp 13,iq 11],none,[10,7,6,9,8,5,4,3,2,1,0]⟩,⟨some 15,.lit true 1 3 (.int .i64 0) [(0,(.tmp 5)),(1,(.tmp 8)),(2,(.tmp 14))],none,[2,1,0,5,4,3,11,10,7,6,9,8]⟩,⟨some 16,.call (.func 81) [.tmp 15],none,[12,2,1,0,5,4,3,11,10,7,6,9,8]⟩,⟨some 2,.mov (.tmp 16),none,[13,12,2,1,0,5,4,3,11,10,7,6,9,8]⟩]) .ret)⟩
theorem dh96:cProg Go.Proofs.Tryz.prog ⟨[],[],[15]⟩ 96=some dc96:=by kernel_rfl
def dc97 : DFunc := ⟨5,1,[.tmp 2],sq [oq 2 (.mov (iq 0))] (sq [mq 3 0,oq 4 (.call (.func 99) [.tmp 3,iq 1,iq 24]),mq 2 4] .ret)⟩
theorem dh97:cProg Go.Proofs.Tryz.prog ⟨[],[],[]⟩ 97=some dc97:=by kernel_rfl
def db98_0 : DC := (sq [oq 8 (.nextS (.tmp 7)),oq 9 (.extract (.tmp 8) 0)] (.seq (.cond (.tmp 9) .skip (.exit 0)) (.block 1 none (sq [oq 10 (.extract (.tmp 8) 1),oq 11 (.extract (.tmp 8) 2),mq 3 10,mq 4 11] (sq [mq 12 4,oq 13 (.bin .geq (.tmp 12) (.const (.int .i32 97))),mq 14 13,gq 15 (.mov (.tmp 4)) 14 true,gq 16 (.bin .leq (.tmp 15) (.const (.int .i32 122))) 14 true,oq 17 (.pick (.tmp 14) (.tmp 16) (bq false)),mq 18 17,gq 19 (.mov (.tmp 4)) 18 false,gq 20 (.bin .geq (.tmp 19) (.const (.int .i32 65))) 18 false,gq 21 (.mov (.tmp 20)) 18 false,gq 22 (.mov (.tmp 4)) 21 true,gq 23 (.bin .leq (.tmp 22) (.const (.int .i32 90))) 21 true,gq 24 (.pick (.tmp 21) (.tmp 23) (bq false)) 18 false,oq 25 (.pick (.tmp 18) (bq true) (.tmp 24)),mq 5 25] (sq [mq 26 5,oq 27 (.un .not (.tmp 26)),mq 28 27,gq 29 (.mov (.tmp 3)) 28 true,gq 30 (.bin .eql (.tmp 29) (iq 0)) 28 true,gq 31 (.mov (.tmp 30)) 28 true,gq 32 (.mov (.tmp 4)) 31 false,gq 33 (.bin .neq (.tmp 32) (.const (.int .i32 95))) 31 false,gq 34 (.mov (.tmp 33)) 31 false,gq 35 (.mov (.tmp 4)) 34 true,gq 36 (.bin .lss (.tmp 35) (.const (.int .i32 48))) 34 true,gq 37 (.mov (.tmp 36)) 34 true,gq 38 (.mov (.tmp 4)) 37 false,gq 39 (.bin .gtr (.tmp 38) (.const (.int .i32 57))) 37 false,gq 40 (.pick (.tmp 37) (bq true) (.tmp 39)) 34 true,gq 41 (.pick (.tmp 34) (.tmp 40) (bq false)) 31 false,gq 42 (.pick (.tmp 31) (bq true) (.tmp 41)) 28 true,oq 43 (.pick (.tmp 28) (.tmp 42) (bq false))] (.cond (.tmp 43) (sq [oq 2 (.mov (bq false))] .ret) .skip)))))))
def dk98_0 : Keep := ⟨[],[0,7],[7]⟩
def dc98 : DFunc := ⟨51,1,[.tmp 2],sq [oq 2 (.mov (bq false))] (.seq (sq [mq 6 0,oq 7 (.rangeS (.tmp 6))] (.block 0 (some ⟨[],[0],[7]⟩) (.loop dk98_0 db98_0))) (sq [mq 44 0,oq 45 (.bin .neq (.tmp 44) (.const (.string ⟨#[]⟩))),mq 46 45,gq 47 (.mov (.tmp 0)) 46 true,gq 48 (.lenS (.tmp 47)) 46 true,gq 49 (.bin .leq (.tmp 48) (iq 24)) 46 true,oq 50 (.pick (.tmp 46) (.tmp 49) (bq false)),mq 2 50] .ret))⟩
theorem dh98:cProg Go.Proofs.Tryz.prog ⟨[(0,⟨[],[0,7],[7]⟩)],[(0,⟨[],[0],[7]⟩)],[]⟩ 98=some dc98:=by kernel_rfl
def dc99 : DFunc := ⟨16,3,[.tmp 6],sq [oq 6 (.mov (iq 0))] (sq [mq 7 0,mq 8 1,oq 9 (.bin .lss (.tmp 7) (.tmp 8)),mq 10 9,gq 11 (.mov (.tmp 0)) 10 false,gq 12 (.mov (.tmp 2)) 10 false,gq 13 (.bin .gtr (.tmp 11) (.tmp 12)) 10 false,oq 14 (.pick (.tmp 10) (bq true) (.tmp 13)),oq 15 (.call (.func 84) [.tmp 14,iq 3]),mq 6 15] .ret)⟩
theorem dh99:cProg Go.Proofs.Tryz.prog ⟨[],[],[]⟩ 99=some dc99:=by kernel_rfl
def dc100 : DFunc := ⟨5,1,[.tmp 2],sq [oq 2 (.mov (iq 0))] (sq [mq 3 0,oq 4 (.call (.func 99) [.tmp 3,iq (-100000),iq 100000]),mq 2 4] .ret)⟩
theorem dh100:cProg Go.Proofs.Tryz.prog ⟨[],[],[]⟩ 100=some dc100:=by kernel_rfl
def dc101 : DFunc := ⟨15,2,[.tmp 4],sq [oq 4 (.mov (iq 0))] (sq [mq 5 0,oq 6 (.call (.func 83) [.tmp 5]),mq 7 1,mq 8 0,oq 9 (.len (.tmp 8)),oq 10 (.minmax false (iq 24) [.tmp 9]),oq 11 (.minmax true (iq 1) [.tmp 10]),oq 12 (.call (.func 27) [.tmp 7,.tmp 11]),oq 13 (.lit true 1 2 (.int .i64 0) [(0,(.tmp 6)),(1,(.tmp 12))]),oq 14 (.call (.func 81) [.tmp 13]),mq 4 14] .ret)⟩
theorem dh101:cProg Go.Proofs.Tryz.prog ⟨[],[],[13]⟩ 101=some dc101:=by kernel_rfl
def dc102 : DFunc := ⟨15,2,[.tmp 4,.tmp 5],sq [oq 4 (.mov (.const (.slice none 0 0))),oq 5 (.mov (.const (.slice none 0 0)))] (sq [mq 8 0,oq 9 (.call (.func 103) [.tmp 8]),oq 6 (.alloc (.full []) 1),nq (.store 1 (.tmp 6) (.tmp 9))] (sq [mq 10 1,oq 11 (.mkfunc 137 [.tmp 6]),oq 12 (.call (.func 136) [.tmp 10,.tmp 11]),mq 7 12] (.seq (.ops true [mq 13 7,oq 14 (.load none (.tmp 6)),⟨some 4,.mov (.tmp 13),none,[0]⟩,⟨some 5,.mov (.tmp 14),none,[1,2,0]⟩]) .ret)))⟩
theorem dh102:cProg Go.Proofs.Tryz.prog ⟨[],[],[]⟩ 102=some dc102:=by kernel_rfl
def dc104 : DFunc := ⟨9,2,[.tmp 4],sq [oq 2 (.box 5 (.tmp 0)),oq 4 (.mov (iq 0))] (sq [mq 5 1,oq 6 (.faddr 0 1 false (.tmp 2)),oq 7 (.load none (.tmp 6)),oq 8 (.call (.func 99) [.tmp 5,iq 0,.tmp 7]),mq 4 8] .ret)⟩
theorem dh104:cProg Go.Proofs.Tryz.prog ⟨[],[],[]⟩ 104=some dc104:=by kernel_rfl
def dc105 : DFunc := ⟨21,3,[.tmp 6],sq [oq 3 (.box 5 (.tmp 0)),oq 6 (.mov (bq false))] (sq [mq 7 2,mq 8 1,oq 9 (.bin .sub (.tmp 7) (.tmp 8)),oq 10 (.faddr 1 1 false (.tmp 3)),oq 11 (.load none (.tmp 10)),oq 12 (.bin .gtr (.tmp 9) (.tmp 11)),mq 13 12,gq 14 (.mov (.tmp 1)) 13 false,gq 15 (.mov (.tmp 2)) 13 false,gq 16 (.bin .sub (.tmp 14) (.tmp 15)) 13 false,gq 17 (.faddr 1 1 false (.tmp 3)) 13 false,gq 18 (.load none (.tmp 17)) 13 false,gq 19 (.bin .gtr (.tmp 16) (.tmp 18)) 13 false,oq 20 (.pick (.tmp 13) (bq true) (.tmp 19)),mq 6 20] .ret)⟩
theorem dh105:cProg Go.Proofs.Tryz.prog ⟨[],[],[]⟩ 105=some dc105:=by kernel_rfl
def db106_0 : DC := (sq [oq 13 (.bin .lss (.tmp 12) (iq 2))] (.seq (.cond (.tmp 13) .skip (.exit 0)) (.seq (.block 1 none (sq [oq 14 (.indexA 2 2 true (.tmp 11) (.tmp 12)),oq 10 (.alloc (.agg [.nilfunc,.nilfunc]) 2),nq (.store 2 (.tmp 10) (.tmp 14))] (sq [oq 15 (.faddr 0 1 false (.tmp 10)),oq 16 (.load none (.tmp 15)),mq 17 3,mq 18 2,oq 19 (.bin .sub (.tmp 17) (.tmp 18)),oq 20 (.call (.tmp 16) [.tmp 19])] (.cond (.tmp 20) (sq [oq 21 (.faddr 1 1 false (.tmp 10)),oq 22 (.load none (.tmp 21)),oq 23 (.load (some 5) (.tmp 4)),mq 24 1,mq 25 3,mq 26 2,oq 27 (.bin .sub (.tmp 25) (.tmp 26)),oq 28 (.call (.tmp 22) [.tmp 23,.tmp 24,.tmp 27]),mq 8 28] .ret) .skip)))) (pq [oq 29 (.bin .add (.tmp 12) (iq 1)),mq 12 29]))))
def dk106_0 : Keep := ⟨[],[1,2,3,4,11,12],[4]⟩
def dc106 : DFunc := ⟨30,4,[.tmp 8],sq [oq 4 (.box 5 (.tmp 0)),oq 8 (.mov (iq 0))] (.seq (sq [oq 11 (.call (.func 138) []),oq 12 (.mov (iq 0))] (.block 0 (some ⟨[],[],[4]⟩) (.loop dk106_0 db106_0))) (sq [oq 8 (.mov (iq 0))] .ret))⟩
theorem dh106:cProg Go.Proofs.Tryz.prog ⟨[(0,⟨[],[1,2,3,4,11,12],[4]⟩)],[(0,⟨[],[],[4]⟩)],[]⟩ 106=some dc106:=by kernel_rfl
def dc107 : DFunc := ⟨15,2,[.tmp 4],sq [oq 2 (.box 5 (.tmp 0)),oq 4 (.mov (iq 0))] (sq [oq 5 (.load (some 5) (.tmp 2)),oq 6 (.call (.func 49) [.tmp 5]),mq 7 1,oq 8 (.len (.tmp 7)),oq 9 (.call (.func 94) [.tmp 8]),mq 10 1,oq 11 (.call (.func 85) [.tmp 10,.func 100]),oq 12 (.call (.func 81) [.tmp 11]),oq 13 (.lit true 1 3 (.int .i64 0) [(0,(.tmp 6)),(1,(.tmp 9)),(2,(.tmp 12))]),oq 14 (.call (.func 81) [.tmp 13]),mq 4 14] .ret)⟩
theorem dh107:cProg Go.Proofs.Tryz.prog ⟨[],[],[13]⟩ 107=some dc107:=by kernel_rfl
def db108_0x : DC := (sq [mq 9 14] (pq [mq 10 15]))
def db108_0 : DC := (.block 1 none (.seq (.ops true [oq 16 (.load none (.tmp 7)),oq 17 (.load (some 5) (.tmp 3)),oq 18 (.load none (.tmp 4)),oq 19 (.load none (.tmp 8)),⟨some 20,.iaddr 1 (.tmp 18) (.tmp 19),none,[2,3]⟩,⟨some 21,.load none (.tmp 20),none,[4,2,3]⟩,mq 22 9,mq 23 10,⟨some 24,.call (.func 106) [.tmp 17,.tmp 21,.tmp 22,.tmp 23],none,[1,5,4,2,3,6,7]⟩,⟨some 25,.bin .add (.tmp 16) (.tmp 24),none,[0,8,1,5,4,2,3,6,7]⟩,⟨none,.store 1 (.tmp 7) (.tmp 25),none,[9,0,8,1,5,4,2,3,6,7]⟩]) (pq [oq 26 (.load none (.tmp 8)),oq 27 (.bin .add (.tmp 26) (iq 1)),nq (.store 1 (.tmp 8) (.tmp 27))])))
def dk108_0 : Keep := ⟨[],[3,4,6,7,8],[3,4,7,8]⟩
def dc108 : DFunc := ⟨29,3,[.tmp 6],sq [oq 3 (.box 5 (.tmp 0)),oq 4 (.box 1 (.tmp 1)),oq 6 (.mov (iq 0))] (sq [oq 7 (.alloc (.int .i64 0) 1),oq 8 (.alloc (.int .i64 0) 1),nq (.store 1 (.tmp 7) (iq 0)),nq (.store 1 (.tmp 8) (iq 0))] (.seq (sq [oq 11 (.load (some 5) (.tmp 3)),mq 12 2,oq 13 (.call (.func 109) [.tmp 11,.tmp 12])] (.block 0 (some ⟨[],[7],[3,4,7,8]⟩) (.rangeF dk108_0 (.tmp 13) [14,15] db108_0x db108_0))) (sq [oq 28 (.load none (.tmp 7)),mq 6 28] .ret)))⟩
theorem dh108:cProg Go.Proofs.Tryz.prog ⟨[(0,⟨[],[3,4,6,7,8],[3,4,7,8]⟩)],[(0,⟨[],[7],[3,4,7,8]⟩)],[]⟩ 108=some dc108:=by kernel_rfl
def dc109 : DFunc := ⟨6,2,[.tmp 4],sq [oq 2 (.box 5 (.tmp 0)),oq 3 (.box 1 (.tmp 1)),oq 4 (.mov (.const .nilFunc))] (sq [oq 5 (.mkfunc 139 [.tmp 2,.tmp 3]),mq 4 5] .ret)⟩
theorem dh109:cProg Go.Proofs.Tryz.prog ⟨[],[],[]⟩ 109=some dc109:=by kernel_rfl
def db112_0 : DC := (.seq (sq [mq 34 8,mq 35 7,oq 36 (.len (.tmp 35)),oq 37 (.bin .lss (.tmp 34) (.tmp 36))] (.cond (.tmp 37) .skip (.exit 0))) (.block 1 none (.ops true [mq 38 8,mq 39 7,mq 40 8,⟨some 41,.slice 1 (.tmp 39) (some (.tmp 40)) none none,none,[1,2]⟩,mq 42 7,mq 43 8,⟨some 44,.slice 1 (.tmp 42) none (some (.tmp 43)) none,none,[4,5]⟩,⟨some 45,.copy 1 (.tmp 41) (.tmp 44),none,[3,1,2,6,4,5]⟩,⟨some 46,.bin .add (.tmp 38) (.tmp 45),none,[0,7,3,1,2,6,4,5]⟩,⟨some 8,.mov (.tmp 46),none,[8,0,7,3,1,2,6,4,5]⟩])))
def dk112_0 : Keep := ⟨[],[7,8],[30]⟩
def dc112 : DFunc := ⟨48,2,[.tmp 4],sq [oq 4 (.mov (.const (.slice none 0 0)))] (.seq (sq [mq 9 1,oq 10 (.bin .lss (.tmp 9) (iq 0))] (.cond (.tmp 10) (pq [oq 11 .bad,nq (.bad)]) .skip)) (sq [mq 13 0,oq 14 (.len (.tmp 13)),oq 15 (.conv .u64 (.tmp 14)),mq 16 1,oq 17 (.conv .u64 (.tmp 16)),oq 18 (.call (.func 140) [.tmp 15,.tmp 17]),mq 12 18,oq 19 (.extract (.tmp 12) 0),oq 20 (.extract (.tmp 12) 1),mq 5 19,mq 6 20] (.seq (sq [mq 21 5,oq 22 (.bin .gtr (.tmp 21) (.const (.int .u64 0))),mq 23 22,gq 24 (.mov (.tmp 6)) 23 false,gq 25 (.bin .gtr (.tmp 24) (.const (.int .u64 9223372036854775807))) 23 false,oq 26 (.pick (.tmp 23) (bq true) (.tmp 25))] (.cond (.tmp 26) (pq [oq 27 .bad,nq (.bad)]) .skip)) (sq [mq 28 6,oq 29 (.conv .i64 (.tmp 28)),oq 30 (.mkslice 1 (.int .i64 0) (.tmp 29) (.tmp 29)),mq 7 30] (sq [mq 31 7,mq 32 0,oq 33 (.copy 1 (.tmp 31) (.tmp 32)),mq 8 33] (.seq (.block 0 (some ⟨[],[7],[30]⟩) (.loop dk112_0 db112_0)) (sq [mq 47 7,mq 4 47] .ret)))))))⟩
theorem dh112:cProg Go.Proofs.Tryz.prog ⟨[(0,⟨[],[7,8],[30]⟩)],[(0,⟨[],[7],[30]⟩)],[]⟩ 112=some dc112:=by kernel_rfl
def dc113 : DFunc := ⟨19,2,[.tmp 4],sq [oq 2 (.box 2 (.tmp 0)),oq 3 (.box 2 (.tmp 1)),oq 4 (.mov (iq 0))] (.seq (.ops true [oq 5 (.faddr 1 1 false (.tmp 3)),⟨some 6,.load none (.tmp 5),none,[0]⟩,oq 7 (.faddr 1 1 false (.tmp 2)),⟨some 8,.load none (.tmp 7),none,[2]⟩,⟨some 9,.call (.func 142) [.tmp 6,.tmp 8],none,[1,0,3,2]⟩,oq 10 (.faddr 0 1 true (.tmp 2)),⟨some 11,.faddr 0 1 false (.tmp 10),none,[5]⟩,⟨some 12,.load none (.tmp 11),none,[6,5]⟩,oq 13 (.faddr 0 1 true (.tmp 3)),⟨some 14,.faddr 0 1 false (.tmp 13),none,[8]⟩,⟨some 15,.load none (.tmp 14),none,[9,8]⟩,⟨some 16,.call (.func 143) [.tmp 12,.tmp 15],none,[7,6,5,10,9,8,4,1,0,3,2]⟩,⟨some 17,.lit true 1 2 (.int .i64 0) [(0,(.tmp 9)),(1,(.tmp 16))],none,[4,1,0,3,2,11,7,6,5,10,9,8]⟩,⟨some 18,.call (.func 141) [.tmp 17],none,[12,4,1,0,3,2,11,7,6,5,10,9,8]⟩,⟨some 4,.mov (.tmp 18),none,[13,12,4,1,0,3,2,11,7,6,5,10,9,8]⟩]) .ret)⟩
theorem dh113:cProg Go.Proofs.Tryz.prog ⟨[],[],[17]⟩ 113=some dc113:=by kernel_rfl
def db114_0 : DC := (.seq (sq [mq 14 6,mq 15 0,oq 16 (.len (.tmp 15)),oq 17 (.bin .lss (.tmp 14) (.tmp 16))] (.cond (.tmp 17) .skip (.exit 0))) (.seq (.block 1 none (.seq (.ops true [mq 20 1,mq 21 0,mq 22 6,⟨some 23,.iaddr 2 (.tmp 21) (.tmp 22),none,[1,2]⟩,⟨some 24,.load (some 2) (.tmp 23),none,[3,1,2]⟩,oq 25 (.load (some 2) (.tmp 5)),⟨some 26,.call (.tmp 20) [.tmp 24,.tmp 25],none,[0,4,3,1,2,5]⟩,⟨some 27,.bin .lss (.tmp 26) (iq 0),none,[6,0,4,3,1,2,5]⟩]) (.cond (.tmp 27) (pq [mq 28 0,mq 29 6,oq 30 (.iaddr 2 (.tmp 28) (.tmp 29)),oq 31 (.load (some 2) (.tmp 30)),nq (.store 2 (.tmp 5) (.tmp 31))]) .skip))) (pq [mq 18 6,oq 19 (.bin .add (.tmp 18) (iq 1)),mq 6 19])))
def dk114_0 : Keep := ⟨[],[0,1,4,5,6],[4,5]⟩
def dc114 : DFunc := ⟨33,2,[.cell 4 (some 2)],sq [oq 4 (.alloc (.agg [.full [],.int .i64 0]) 2)] (.seq (sq [mq 7 0,oq 8 (.len (.tmp 7)),oq 9 (.bin .lss (.tmp 8) (iq 1))] (.cond (.tmp 9) (pq [oq 10 .bad,nq (.bad)]) .skip)) (sq [mq 11 0,oq 12 (.iaddr 2 (.tmp 11) (iq 0)),oq 13 (.load (some 2) (.tmp 12)),oq 5 (.alloc (.agg [.full [],.int .i64 0]) 2),nq (.store 2 (.tmp 5) (.tmp 13))] (.seq (sq [oq 6 (.mov (iq 1))] (.block 0 (some ⟨[],[4,5],[4,5]⟩) (.loop dk114_0 db114_0))) (sq [oq 32 (.load (some 2) (.tmp 5)),nq (.store 2 (.tmp 4) (.tmp 32))] .ret))))⟩
theorem dh114:cProg Go.Proofs.Tryz.prog ⟨[(0,⟨[],[0,1,4,5,6],[4,5]⟩)],[(0,⟨[],[4,5],[4,5]⟩)],[]⟩ 114=some dc114:=by kernel_rfl
def db115_0 : DC := (sq [oq 37 (.bin .lss (.tmp 36) (.tmp 35))] (.seq (.cond (.tmp 37) .skip (.exit 2)) (.seq (.block 3 none (sq [mq 38 36,mq 11 38] (.seq (.ops true [oq 39 (.load (some 5) (.tmp 2)),mq 40 7,mq 41 11,⟨some 42,.call (.func 105) [.tmp 39,.tmp 40,.tmp 41],none,[0,1,2]⟩,⟨some 43,.un .not (.tmp 42),none,[3,0,1,2]⟩,⟨some 44,.mov (.tmp 43),none,[4,3,0,1,2]⟩,⟨some 45,.load (some 5) (.tmp 2),some (44,true),[5,4,3,0,1,2]⟩,⟨some 46,.mov (.tmp 9),some (44,true),[5,4,3,0,1,2]⟩,⟨some 47,.mov (.tmp 7),some (44,true),[5,4,3,0,1,2]⟩,⟨some 48,.mov (.tmp 11),some (44,true),[5,4,3,0,1,2]⟩,⟨some 49,.call (.func 106) [.tmp 45,.tmp 46,.tmp 47,.tmp 48],some (44,true),[6,5,4,3,0,1,2,7,8,9]⟩,⟨some 50,.mov (.tmp 5),some (44,true),[5,4,3,0,1,2]⟩,⟨some 51,.mov (.tmp 8),some (44,true),[5,4,3,0,1,2]⟩,⟨some 52,.bin .add (.tmp 51) (iq 1),some (44,true),[12,5,4,3,0,1,2]⟩,⟨some 53,.iaddr 1 (.tmp 50) (.tmp 52),some (44,true),[11,5,4,3,0,1,2,13,12]⟩,⟨some 54,.load none (.tmp 53),some (44,true),[14,11,5,4,3,0,1,2,13,12]⟩,⟨some 55,.mov (.tmp 11),some (44,true),[5,4,3,0,1,2]⟩,⟨some 56,.iaddr 1 (.tmp 54) (.tmp 55),some (44,true),[15,14,11,5,4,3,0,1,2,13,12,16]⟩,⟨some 57,.load none (.tmp 56),some (44,true),[17,15,14,11,5,4,3,0,1,2,13,12,16]⟩,⟨some 58,.bin .add (.tmp 49) (.tmp 57),some (44,true),[10,6,5,4,3,0,1,2,7,8,9,18,17,15,14,11,13,12,16]⟩,⟨some 59,.mov (.tmp 5),some (44,true),[5,4,3,0,1,2]⟩,⟨some 60,.mov (.tmp 8),some (44,true),[5,4,3,0,1,2]⟩,⟨some 61,.iaddr 1 (.tmp 59) (.tmp 60),some (44,true),[20,5,4,3,0,1,2,21]⟩,⟨some 62,.load none (.tmp 61),some (44,true),[22,20,5,4,3,0,1,2,21]⟩,⟨some 63,.mov (.tmp 7),some (44,true),[5,4,3,0,1,2]⟩,⟨some 64,.iaddr 1 (.tmp 62) (.tmp 63),some (44,true),[23,22,20,5,4,3,0,1,2,21,24]⟩,⟨some 65,.load none (.tmp 64),some (44,true),[25,23,22,20,5,4,3,0,1,2,21,24]⟩,⟨some 66,.bin .eql (.tmp 58) (.tmp 65),some (44,true),[19,10,6,5,4,3,0,1,2,7,8,9,18,17,15,14,11,13,12,16,26,25,23,22,20,21,24]⟩,⟨some 67,.pick (.tmp 44) (.tmp 66) (bq false),none,[5,4,3,0,1,2,27,19,10,6,7,8,9,18,17,15,14,11,13,12,16,26,25,23,22,20,21,24]⟩]) (.cond (.tmp 67) (sq [mq 68 11,mq 10 68] (.exit 2)) .skip)))) (pq [oq 69 (.bin .add (.tmp 36) (iq 1)),mq 36 69]))))
def dk115_0 : Keep := ⟨[],[2,4,5,6,7,8,9,10,25,26,27,35,36],[2,4,6,75,76]⟩
def db115_1 : DC := (sq [oq 28 (.bin .lss (.tmp 27) (.tmp 26))] (.seq (.cond (.tmp 28) .skip (.exit 0)) (.seq (.block 1 (some ⟨[],[2,4,5,6,7,25,26,27],[2,4,6,76]⟩) (sq [mq 29 27,oq 30 (.iaddr 1 (.tmp 25) (.tmp 27)),oq 31 (.load none (.tmp 30)),mq 8 29,mq 9 31] (sq [mq 32 7,mq 10 32] (.seq .skip (.seq (sq [oq 33 (.faddr 0 1 false (.tmp 2)),oq 34 (.load none (.tmp 33)),oq 35 (.bin .add (.tmp 34) (iq 1)),oq 36 (.mov (iq 0))] (.block 2 (some ⟨[],[2,4,5,6,10,25,26,27],[2,4,6,75,76]⟩) (.loop dk115_0 db115_0))) (sq [mq 70 10,mq 7 70] (pq [oq 71 (.faddr 0 1 true (.tmp 6)),oq 72 (.faddr 0 1 false (.tmp 71)),oq 73 (.load none (.tmp 72)),mq 74 7,oq 75 (.lit true 1 1 (.int .i64 0) [(0,(.tmp 74))]),oq 76 (.append false 1 (.tmp 73) (.tmp 75)),oq 77 (.faddr 0 1 true (.tmp 6)),oq 78 (.faddr 0 1 false (.tmp 77)),nq (.store 1 (.tmp 78) (.tmp 76))]))))))) (pq [oq 79 (.bin .add (.tmp 27) (iq 1)),mq 27 79]))))
def dk115_1 : Keep := ⟨[],[2,4,5,6,7,25,26,27],[2,4,6,76]⟩
def dc115 : DFunc := ⟨81,2,[.cell 4 (some 2)],sq [oq 2 (.box 5 (.tmp 0)),oq 4 (.alloc (.agg [.full [],.int .i64 0]) 2)] (sq [oq 12 (.load (some 5) (.tmp 2)),mq 13 1,oq 14 (.call (.func 116) [.tmp 12,.tmp 13]),mq 5 14] (.seq (.ops true [mq 15 5,⟨some 16,.iaddr 1 (.tmp 15) (iq 0),none,[0]⟩,⟨some 17,.load none (.tmp 16),none,[1,0]⟩,oq 18 (.faddr 4 1 false (.tmp 2)),⟨some 19,.load none (.tmp 18),none,[3]⟩,⟨some 20,.iaddr 1 (.tmp 17) (.tmp 19),none,[2,1,0,4,3]⟩,⟨some 21,.load none (.tmp 20),none,[5,2,1,0,4,3]⟩,⟨some 22,.build [.full [],.int .i64 0] [(1,(1,(.tmp 21)))],none,[6,5,2,1,0,4,3]⟩,oq 6 (.alloc (.agg [.full [],.int .i64 0]) 2),⟨none,.store 2 (.tmp 6) (.tmp 22),none,[8,7,6,5,2,1,0,4,3]⟩]) (sq [oq 23 (.faddr 4 1 false (.tmp 2)),oq 24 (.load none (.tmp 23)),mq 7 24] (.seq (sq [mq 25 1,oq 26 (.len (.tmp 25)),oq 27 (.mov (iq 0))] (.block 0 (some ⟨[],[4,6],[2,4,6,76]⟩) (.loop dk115_1 db115_1))) (sq [oq 80 (.load (some 2) (.tmp 6)),nq (.store 2 (.tmp 4) (.tmp 80))] .ret)))))⟩
theorem dh115:cProg Go.Proofs.Tryz.prog ⟨[(0,⟨[],[2,4,5,6,7,25,26,27],[2,4,6,76]⟩),(2,⟨[],[2,4,5,6,7,8,9,10,25,26,27,35,36],[2,4,6,75,76]⟩)],[(2,⟨[],[2,4,5,6,10,25,26,27],[2,4,6,75,76]⟩),(1,⟨[],[2,4,5,6,7,25,26,27],[2,4,6,76]⟩),(0,⟨[],[4,6],[2,4,6,76]⟩)],[75]⟩ 115=some dc115:=by kernel_rfl
def dc117 : DFunc := ⟨9,2,[.tmp 4],sq [oq 4 (.mov (bq false))] (sq [mq 5 0,mq 6 1,oq 7 (.call (.func 145) [.tmp 5,.tmp 6]),oq 8 (.bin .geq (.tmp 7) (iq 0)),mq 4 8] .ret)⟩
theorem dh117:cProg Go.Proofs.Tryz.prog ⟨[],[],[]⟩ 117=some dc117:=by kernel_rfl
def dc118 : DFunc := ⟨10,2,[.tmp 3],sq [oq 3 (.mov (bq false))] (sq [mq 4 0,oq 5 (.len (.tmp 4)),oq 6 (.faddr 0 1 false (.tmp 1)),oq 7 (.load none (.tmp 6)),oq 8 (.bin .add (.tmp 7) (iq 1)),oq 9 (.bin .neq (.tmp 5) (.tmp 8)),mq 3 9] .ret)⟩
theorem dh118:cProg Go.Proofs.Tryz.prog ⟨[],[],[]⟩ 118=some dc118:=by kernel_rfl
def dc119 : DFunc := ⟨5,1,[.tmp 2],sq [oq 2 (.mov (iq 0))] (sq [mq 3 0,oq 4 (.call (.func 99) [.tmp 3,iq (-10000000000),iq 10000000000]),mq 2 4] .ret)⟩
theorem dh119:cProg Go.Proofs.Tryz.prog ⟨[],[],[]⟩ 119=some dc119:=by kernel_rfl
def db120_0 : DC := (sq [oq 12 (.bin .lss (.tmp 11) (.tmp 10))] (.seq (.cond (.tmp 12) .skip (.exit 0)) (.seq (.block 1 none (sq [oq 13 (.iaddr 1 (.tmp 9) (.tmp 11)),oq 14 (.load none (.tmp 13)),mq 5 14] (sq [mq 15 3,mq 16 5,oq 17 (.len (.tmp 16)),oq 18 (.bin .add (.tmp 15) (.tmp 17)),mq 3 18] (sq [mq 19 3,oq 20 (.bin .lss (.tmp 19) (iq 0))] (.cond (.tmp 20) (pq [oq 21 .bad,nq (.bad)]) .skip))))) (pq [oq 22 (.bin .add (.tmp 11) (iq 1)),mq 11 22]))))
def dk120_0 : Keep := ⟨[],[0,3,9,10,11],[24,33]⟩
def db120_1 : DC := (sq [oq 28 (.bin .lss (.tmp 27) (.tmp 26))] (.seq (.cond (.tmp 28) .skip (.exit 2)) (.seq (.block 3 none (sq [oq 29 (.iaddr 1 (.tmp 25) (.tmp 27)),oq 30 (.load none (.tmp 29)),mq 8 30] (pq [mq 31 6,mq 32 8,oq 33 (.append true 1 (.tmp 31) (.tmp 32)),mq 6 33]))) (pq [oq 34 (.bin .add (.tmp 27) (iq 1)),mq 27 34]))))
def dk120_1 : Keep := ⟨[(6,1)],[6,25,26,27],[6,24]⟩
def dc120 : DFunc := ⟨36,1,[.tmp 2],sq [oq 2 (.mov (.const (.slice none 0 0)))] (sq [oq 3 (.mov (iq 0))] (.seq (sq [mq 9 0,oq 10 (.len (.tmp 9)),oq 11 (.mov (iq 0))] (.block 0 (some ⟨[],[0,3],[24,33]⟩) (.loop dk120_0 db120_0))) (sq [mq 23 3,oq 24 (.call (.func 146) [.const (.slice none 0 0),.tmp 23]),mq 6 24] (.seq (sq [mq 25 0,oq 26 (.len (.tmp 25)),oq 27 (.mov (iq 0))] (.block 2 (some ⟨[],[6],[6,24]⟩) (.loop dk120_1 db120_1))) (sq [mq 35 6,mq 2 35] .ret)))))⟩
theorem dh120:cProg Go.Proofs.Tryz.prog ⟨[(0,⟨[],[0,3,9,10,11],[24,33]⟩),(2,⟨[(6,1)],[6,25,26,27],[6,24]⟩)],[(0,⟨[],[0,3],[24,33]⟩),(2,⟨[],[6],[6,24]⟩)],[33]⟩ 120=some dc120:=by kernel_rfl
def dc121 : DFunc := ⟨9,2,[.tmp 4],sq [oq 4 (.mov (bq false))] (sq [mq 5 0,mq 6 1,oq 7 (.call (.func 147) [.tmp 5,.tmp 6]),oq 8 (.bin .geq (.tmp 7) (iq 0)),mq 4 8] .ret)⟩
theorem dh121:cProg Go.Proofs.Tryz.prog ⟨[],[],[]⟩ 121=some dc121:=by kernel_rfl
def dc122 : DFunc := ⟨5,1,[.tmp 2],sq [oq 2 (.mov (bq false))] (sq [mq 3 0,oq 4 (.bin .neq (.tmp 3) (iq 0)),mq 2 4] .ret)⟩
theorem dh122:cProg Go.Proofs.Tryz.prog ⟨[],[],[]⟩ 122=some dc122:=by kernel_rfl
def dc123 : DFunc := ⟨16,1,[.cell 2 (some 2)],sq [oq 2 (.alloc (.agg [.int .i64 0,.int .i64 0]) 2)] (sq [mq 4 0,oq 5 (.bin .rem (.tmp 4) (iq 1000)),mq 3 5] (.seq (sq [mq 6 3,oq 7 (.bin .lss (.tmp 6) (iq 0))] (.cond (.tmp 7) (pq [mq 8 3,oq 9 (.bin .add (.tmp 8) (iq 1000)),mq 3 9]) .skip)) (sq [mq 10 0,mq 11 3,oq 12 (.bin .sub (.tmp 10) (.tmp 11)),oq 13 (.bin .quo (.tmp 12) (iq 1000)),mq 14 3,oq 15 (.build [.int .i64 0,.int .i64 0] [(0,(1,(.tmp 13))),(1,(1,(.tmp 14)))]),nq (.store 2 (.tmp 2) (.tmp 15))] .ret)))⟩
theorem dh123:cProg Go.Proofs.Tryz.prog ⟨[],[],[]⟩ 123=some dc123:=by kernel_rfl
end Sh

namespace Sh
open Go Go.Proofs
def wordsV:DV:=.agg [.str [111,102,102,101,114]]
def freeV:DV:=.agg [DV.int .i64 (0),DV.int .i64 (0)]
def GC:Nat→Option DV:=fun g=>if g=1 then some wordsV else if g=0 then some freeV else if g=3 then some (.agg (Lib.pow10Tab.map (DV.int .u64))) else if g=2 then some (.agg [.undef]) else none
abbrev PC:=PureCall Tryz.prog GC
end Sh

namespace Sh
open Go
structure Pt where
 x:Int
 y:Int
structure V3 where
 x:Int
 y:Int
 z:Int
def firstE:List Int→Int
 |[]=>0
 |a :: r=>if a≠0 then a else firstE r
theorem firstE_drop (l:List Int) (i:Nat) (h:i < l.length):firstE (l.drop i)=if l.getD i 0≠0 then l.getD i 0 else firstE (l.drop (i+1)):=by
 rw [List.drop_eq_getElem_cons h];simp [firstE,List.getD_eq_getElem?_getD,h]
def withE (n l h:Int):Int:=if n < l∨h < n then 3 else 0
def whenE (b:Bool) (e:Int):Int:=if b then e else 0
def countE (n m:Int):Int:=firstE [whenE (decide (n=0)) 12,whenE (decide (m < n)) 5]
theorem drop_getD {α:Type} (l:List α) (i:Nat) (d:α) (h:i < l.length):l.drop i=l.getD i d :: l.drop (i+1):=by
 rw [List.drop_eq_getElem_cons h];simp [List.getD_eq_getElem?_getD,h]
theorem take_snoc {α:Type} (l:List α) (i:Nat) (d:α) (h:i < l.length):l.take (i+1)=l.take i++[l.getD i d]:=by
 rw [List.take_add_one];simp [List.getD_eq_getElem?_getD,h]
theorem getD_in {α:Type} {l:List α} {i:Nat} (d:α) (h:i < l.length):l.getD i d ∈ l:=by
 have:l.getD i d=l[i]:=by simp [List.getD_eq_getElem?_getD,h]
 rw [this];exact List.getElem_mem h
theorem take_map_succ {α β:Type} (f:α→β) (l:List α) (i:Nat) (d:α) (h:i < l.length):(l.take (i+1)).map f=(l.take i).map f++[f (l.getD i d)]:=by
 rw [take_snoc l i d h,List.map_append];rfl
theorem window_full {α:Type} (l:List α):window l 0 l.length=l:=by simp [window]
theorem int_eq {a b:Int} (h:a=b):DV.int .i64 a=.int .i64 b:=by rw [h]
theorem bool_eq {a b:Bool} (h:a=b):DV.bool a=.bool b:=by rw [h]
theorem idxA {α:Type} {enc:α→DV} {l:List α} {i n:Nat} {x:DV} (h:i < l.length) (hx:x.cells.length=n):0≤(i:Int)∧(i:Int) < ((l.map enc).length:Nat)∧x.cells.length=n:=⟨by omega,by simpa using h,hx⟩
theorem wrap_succ (i:Nat) (h:i < 4611686018427387904):IntKind.i64.wrap ((i:Int)+1)=((i+1:Nat):Int):=by
 rw [wrap_W,W_in (by omega) (by omega)];omega
theorem wrap_in {n:Int} (h1 : -9223372036854775808≤n) (h2:n≤9223372036854775807):IntKind.i64.wrap n=n:=W_in h1 h2
theorem mul_bd {a b A B:Int} (h1 : -A≤a) (h2:a≤A) (h3 : -B≤b) (h4:b≤B) : -(A * B)≤a * b∧a * b≤A * B:=by
 have hA:0≤A:=by omega
 have hB:0≤B:=by omega
 have ha:a.natAbs≤A.natAbs:=by omega
 have hb:b.natAbs≤B.natAbs:=by omega
 have h:=Nat.mul_le_mul ha hb
 rw [← Int.natAbs_mul,← Int.natAbs_mul] at h
 have hAB:0≤A * B:=Int.mul_nonneg hA hB
 omega
theorem firstE_cons {a:Int} {l:List Int} (h:firstE (a :: l)=0):a=0∧firstE l=0:=by
 unfold firstE at h
 split at h
 ·exact absurd h ‹_›
 ·rename_i h1;exact ⟨Classical.not_not.1 h1,h⟩
theorem withE_zero {n l h:Int} (e:withE n l h=0):l≤n∧n≤h:=by
 unfold withE at e;split at e
 ·cases e
 ·omega
theorem whenE_zero {b:Bool} {e:Int} (h:whenE b e=0) (he:e≠0):b=false:=by
 cases b
 ·rfl
 ·exact absurd h he
theorem firstE_mem {l:List Int} (h:firstE l=0):∀ e ∈ l,e=0:=by
 induction l with
 |nil=>simp
 |cons a r ih =>
  obtain ⟨h1,h2⟩:=firstE_cons h
  intro e he
  rcases List.mem_cons.1 he with rfl|he
  ·exact h1
  ·exact ih h2 e he
def sumI (l:List Int):Int:=l.foldr (·+·) 0
theorem sumI_append (a b:List Int):sumI (a++b)=sumI a+sumI b:=by
 induction a with
 |nil=>simp [sumI]
 |cons x r ih=>simp only [sumI,List.cons_append,List.foldr_cons] at ih ⊢;omega
theorem sumI_one (a:Int):sumI [a]=a:=by simp [sumI]
theorem sumI_bd {l:List Int} {A B:Int} (h:∀ x ∈ l,A≤x∧x≤B):l.length * A≤sumI l∧sumI l≤l.length * B:=by
 induction l with
 |nil=>simp [sumI]
 |cons x r ih =>
  have h1:=ih (fun y hy=>h y (List.mem_cons_of_mem _ hy))
  have h2:=h x (List.mem_cons_self ..)
  have e:sumI (x :: r)=x+sumI r:=rfl
  simp only [List.length_cons,Int.natCast_add,Int.add_mul]
  omega
def rng {α:Type} (m:Nat) (f:Nat→α):List α:=(List.range m).map f
theorem rng_len {α:Type} (m:Nat) (f:Nat→α):(rng m f).length=m:=by simp [rng]
theorem rng_getD {α:Type} {m i:Nat} (f:Nat→α) (d:α) (h:i < m):(rng m f).getD i d=f i:=by
 simp [rng,List.getD_eq_getElem?_getD,h]
theorem rng_set {α:Type} (m j:Nat) (f:Nat→α) (v:α):(rng m f).set j v=rng m (fun k=>if k=j then v else f k):=by
 apply List.ext_getElem
 ·simp [rng]
 ·intro i h1 h2
  simp only [rng,List.getElem_set,List.getElem_map,List.getElem_range]
  by_cases e:j=i
  ·subst e;simp
  ·rw [if_neg e,if_neg (Ne.symm e)]
theorem rng_congr {α:Type} {m:Nat} {f g:Nat→α} (h:∀ k,k < m→f k=g k):rng m f=rng m g:=by
 unfold rng;exact List.map_congr_left (fun k hk=>h k (List.mem_range.1 hk))
theorem rng_succ {α:Type} (m:Nat) (f:Nat→α):rng (m+1) f=rng m f++[f m]:=by
 simp [rng,List.range_succ]
theorem rng_const {α:Type} (m:Nat) (v:α):List.replicate m v=rng m (fun _=>v):=by
 apply List.ext_getElem<;>simp [rng]
theorem rng_map {α β:Type} (m:Nat) (f:Nat→α) (g:α→β):(rng m f).map g=rng m (fun k=>g (f k)):=by simp [rng]
section
variable {ev:Operand→DV} {lk:Nat→Option DObj} {o kk q i:Nat} {ks:List Nat} {z v:DV} {m k x:Operand} {es:List (DV×DV)}
theorem ev_lookup_some (hm:ev m=.dict q) (hl:lk q=some (.dict es)) (hp:keyB kk ks (ev k)=true) (hd:dfind (keyEq kk ks) (ev k) es 0=some (some (i,v))):evalOp ev lk o (.lookup kk ks false z m k)=.ok none v []:=by
 simp [evalOp,hm,hl,hp,hd]
theorem ev_lookup_none (hm:ev m=.dict q) (hl:lk q=some (.dict es)) (hp:keyB kk ks (ev k)=true) (hd:dfind (keyEq kk ks) (ev k) es 0=some none):evalOp ev lk o (.lookup kk ks false z m k)=.ok none z []:=by
 simp [evalOp,hm,hl,hp,hd]
theorem ev_mapset_none {kv vv:DV} (hm:ev m=.dict q) (hl:lk q=some (.dict es)) (hk:ev k=kv) (hv:ev x=vv) (hp:(keyB kk ks kv && pureB vv)=true) (hd:dfind (keyEq kk ks) kv es 0=some none):evalOp ev lk o (.mapset kk ks m k x)=.ok none (.tuple []) [(q,.dict (es++[(kv,vv)]))]:=by
 simp only [evalOp,hm,hl,hk,hv,hp,hd,cond_true]
end
def mx (a b:Int):Int:=if a < b then b else a
def isD (c:UInt8):Bool:=decide (48≤c.toNat) && decide (c.toNat≤57)
def valD:List UInt8→Int→Int
 |[],n=>n
 |c :: r,n=>valD r (10 * n+((c.toNat:Int) - 48))
def badD (s:List UInt8):Bool:=decide (s=[]) || decide (9 < s.length) || (decide (1 < s.length) && decide (s.getD 0 0=48))
def digS (s:List UInt8):Int×Bool:=if badD s || !s.all isD then (0,false) else (valD s 0,true)
theorem valD_append (a b:List UInt8) (n:Int):valD (a++b) n=valD b (valD a n):=by
 induction a generalizing n with
 |nil=>rfl
 |cons c r ih=>exact ih _
theorem valD_bd:∀ (s:List UInt8) (n:Int) (k:Nat),s.all isD=true→0≤n→n < 10 ^ k→0≤valD s n∧valD s n < 10 ^ (k+s.length)
 |[],n,k,_,h0,h1=>⟨h0,h1⟩
 |c :: r,n,k,h,h0,h1=>by
  rw [List.all_cons,Bool.and_eq_true] at h
  have hc:=h.1
  unfold isD at hc
  rw [Bool.and_eq_true,decide_eq_true_eq,decide_eq_true_eq] at hc
  have h2:(10:Int) ^ (k+1)=10 ^ k * 10:=Int.pow_succ ..
  have:=valD_bd r (10 * n+((c.toNat:Int) - 48)) (k+1) h.2 (by omega) (by omega)
  rw [List.length_cons,show k+(r.length+1)=k+1+r.length by omega]
  exact this
def glue (p:List UInt8):List (List UInt8)→List (List UInt8)
 |[]=>[p]
 |h :: t=>(p++h) :: t
def splitC (b:UInt8):List UInt8→List (List UInt8)
 |[]=>[[]]
 |c :: r=>if c=b then [] :: splitC b r else glue [c] (splitC b r)
theorem splitC_ne (b:UInt8):∀ s,splitC b s≠[]
 |[]=>by simp [splitC]
 |c :: r=>by
  unfold splitC
  split
  ·simp
  ·cases splitC b r<;>simp [glue]
theorem splitC_len (b:UInt8):∀ s:List UInt8,(splitC b s).length≤s.length+1∧∀ x ∈ splitC b s,x.length≤s.length
 |[]=>⟨Nat.le_refl _,fun x hx=>by simp [splitC] at hx;subst hx;exact Nat.le_refl _⟩
 |c :: r=>by
  obtain ⟨h1,h2⟩:=splitC_len b r
  have hn:=splitC_ne b r
  unfold splitC
  split
  ·refine ⟨by simp;omega,fun x hx=>?_⟩
   rcases List.mem_cons.1 hx with rfl|hx
   ·simp
   ·have:=h2 x hx;simp;omega
  ·cases hs:splitC b r with
   |nil=>exact absurd hs hn
   |cons h t =>
    rw [hs] at h1 h2
    refine ⟨by simp [glue] at h1 ⊢;omega,fun x hx=>?_⟩
    simp only [glue] at hx
    rcases List.mem_cons.1 hx with rfl|hx
    ·have:=h2 h (List.mem_cons_self ..);simp;omega
    ·have:=h2 x (List.mem_cons_of_mem _ hx);simp;omega
def wn (ns:List Int):List UInt8:=Lib.joinTail [32] (ns.map Lib.itoa)
theorem wn_cons (n:Int) (r:List Int):wn (n :: r)=32 :: (Lib.itoa n++wn r):=by simp [wn,Lib.joinTail]
theorem wn_nil:wn []=[]:=rfl
def linesC:List UInt8→List (List UInt8)
 |[]=>[]
 |c :: r=>if c=10 then [c] :: linesC r else glue [c] (linesC r)
theorem lines_idx:∀ s:List UInt8,s≠[]→(Lib.indexByte s 10 = -1∧linesC s=[s])∨∃ i:Nat,Lib.indexByte s 10=i∧i < s.length∧linesC s=s.take (i+1) :: linesC (s.drop (i+1))
 |[],h=>absurd rfl h
 |b :: l,_=>by
  by_cases hb:b=10
  ·subst hb
   exact .inr ⟨0,rfl,by simp,by simp [linesC]⟩
  ·have hbe:(b == (10:UInt8))=false:=beq_eq_false_iff_ne.2 hb
   have e1:Lib.indexByte (b :: l) 10=if Lib.indexByte l 10 == -1 then -1 else Lib.indexByte l 10+1:=by rw [Lib.indexByte,hbe];rfl
   have e2:linesC (b :: l)=glue [b] (linesC l):=by rw [linesC,if_neg hb]
   by_cases hl:l=[]
   ·subst hl
    exact .inl ⟨by rw [e1];rfl,by rw [e2];rfl⟩
   ·rcases lines_idx l hl with ⟨h1,h2⟩|⟨i,h1,h2,h3⟩
    ·exact .inl ⟨by rw [e1,h1];rfl,by rw [e2,h2];rfl⟩
    ·refine .inr ⟨i+1,?_,by simp;omega,?_⟩
     ·have hn:((i:Int) == -1)=false:=beq_eq_false_iff_ne.2 (by omega)
      rw [e1,h1,hn];simp
     ·rw [e2,h3];rfl
theorem window_take (s:List UInt8) (k:Nat) (h:k≤s.length):window s 0 k=s.take k:=by simp [window]
theorem window_drop (s:List UInt8) (k:Nat):window s k (s.length - k)=s.drop k:=by unfold window;rw [List.take_of_length_le (by simp)]
def linesOf:List (List UInt8)→List (List UInt8)
 |[]=>[]
 |[l]=>if l=[] then [] else [l]
 |h :: t=>(h++[10]) :: linesOf t
theorem linesOf_cons (h:List UInt8) {t:List (List UInt8)} (ht:t≠[]):linesOf (h :: t)=(h++[10]) :: linesOf t:=by
 cases t with
 |nil=>exact absurd rfl ht
 |cons a r=>rfl
theorem lines_split:∀ s:List UInt8,linesC s=linesOf (splitC 10 s)
 |[]=>rfl
 |c :: r=>by
  have ih:=lines_split r
  have hn:=splitC_ne 10 r
  unfold linesC splitC
  by_cases h:c=10
  ·rw [if_pos h,if_pos h,linesOf_cons _ hn,ih,h];rfl
  ·rw [if_neg h,if_neg h,ih]
   cases hs:splitC 10 r with
   |nil=>exact absurd hs hn
   |cons a t =>
    cases t with
    |nil =>
     simp only [linesOf,glue]
     by_cases ha:a=[]
     ·subst ha;rfl
     ·rw [if_neg ha];rfl
    |cons b u =>
     show glue [c] ((a++[10]) :: linesOf (b :: u))=(([c]++a)++[10]) :: linesOf (b :: u)
     simp [glue]
theorem linesOf_len:∀ (rows:List (List UInt8)) (m:Nat),rows.length=m+1→(linesOf rows).length=m+(if rows.getD m []=[] then 0 else 1)
 |[],m,h=>by simp at h
 |[l],m,h=>by
  have:m=0:=by simp at h;omega
  subst this
  unfold linesOf
  by_cases hl:l=[]<;>simp [hl]
 |h :: a :: t,m,hm=>by
  obtain ⟨k,rfl⟩:∃ k,m=k+1:=⟨m - 1,by simp at hm;omega⟩
  have:=linesOf_len (a :: t) k (by simpa using hm)
  rw [linesOf_cons h (by simp),List.length_cons,this]
  simp only [List.getD_cons_succ];omega
theorem linesOf_get:∀ (rows:List (List UInt8)) (m i:Nat),rows.length=m+1→i < m→(linesOf rows).getD i []=rows.getD i []++[10]
 |[],m,i,h,_=>by simp at h
 |[l],m,i,h,hi=>by simp at h;omega
 |h :: a :: t,m,i,hm,hi=>by
  obtain ⟨k,rfl⟩:∃ k,m=k+1:=⟨m - 1,by omega⟩
  rw [linesOf_cons h (by simp)]
  cases i with
  |zero=>rfl
  |succ i =>
   rw [List.getD_cons_succ,List.getD_cons_succ]
   exact linesOf_get (a :: t) k i (by simpa using hm) (by omega)
theorem linesOf_last:∀ (rows:List (List UInt8)) (m:Nat),rows.length=m+1→rows.getD m []≠[]→(linesOf rows).getD m []=rows.getD m []
 |[],m,h,_=>by simp at h
 |[l],m,h,hl=>by
  have:m=0:=by simp at h;omega
  subst this
  have hl:l≠[]:=hl
  unfold linesOf
  rw [if_neg hl]
 |h :: a :: t,m,hm,hl=>by
  obtain ⟨k,rfl⟩:∃ k,m=k+1:=⟨m - 1,by simp at hm;omega⟩
  rw [linesOf_cons h (by simp)]
  exact linesOf_last (a :: t) k (by simpa using hm) hl
theorem splitC_not (b:UInt8):∀ (s:List UInt8),∀ x ∈ splitC b s,b ∉ x
 |[],x,hx=>by simp [splitC] at hx;subst hx;simp
 |c :: r,x,hx=>by
  have ih:=splitC_not b r
  unfold splitC at hx
  by_cases h:c=b
  ·rw [if_pos h] at hx
   rcases List.mem_cons.1 hx with rfl|hx
   ·simp
   ·exact ih x hx
  ·rw [if_neg h] at hx
   cases hs:splitC b r with
   |nil=>exact absurd hs (splitC_ne b r)
   |cons a t =>
    rw [hs] at hx ih
    simp only [glue] at hx
    rcases List.mem_cons.1 hx with rfl|hx
    ·have:=ih a (List.mem_cons_self ..)
     simp only [List.cons_append,List.nil_append,List.mem_cons,not_or]
     exact ⟨fun e=>h e.symm,this⟩
    ·exact ih x (List.mem_cons_of_mem _ hx)
theorem cut_yes (l:List UInt8):Lib.trimSuffix (l++[10]) [10]=l∧Lib.hasSuffix (l++[10]) [10]=true:=by
 have h:Lib.hasSuffix (l++[10]) [10]=true:=by unfold Lib.hasSuffix;simp
 refine ⟨?_,h⟩
 unfold Lib.trimSuffix
 rw [if_pos h];simp
theorem cut_no (l:List UInt8) (h:(10:UInt8) ∉ l):Lib.trimSuffix l [10]=l∧Lib.hasSuffix l [10]=false:=by
 have h2:Lib.hasSuffix l [10]=false:=by
  cases e:Lib.hasSuffix l [10] with
  |false=>rfl
  |true =>
   unfold Lib.hasSuffix at e
   rw [List.isSuffixOf_iff_suffix] at e
   obtain ⟨t,rfl⟩:=e
   exact absurd (by simp:(10:UInt8) ∈ t++[10]) h
 refine ⟨?_,h2⟩
 unfold Lib.trimSuffix
 rw [h2];rfl
theorem get_bytes (s:List UInt8) (i:Nat):(⟨s.toArray⟩:ByteArray).get! i=s.getD i 0:=by
 simp [ByteArray.get!,List.getD_eq_getElem?_getD,Array.getElem!_eq_getD]
 rfl
theorem sdecode_ascii (s:List UInt8) (i:Nat) (h:(s.getD i 0).toNat < 128):sdecode s i=((s.getD i 0).toNat,1):=by
 unfold sdecode
 rw [Lib.decode_at,get_bytes,Lib.decodeN,if_pos h]
theorem sdecode_other (s:List UInt8) (i:Nat) (h:¬ (s.getD i 0).toNat < 128):128≤(sdecode s i).1:=by
 unfold sdecode
 rw [Lib.decode_at,get_bytes]
 rcases Lib.decodeN_shape ((⟨s.toArray⟩:ByteArray).size - i) (s.getD i 0).toNat (((⟨s.toArray⟩:ByteArray).get! (i+1)).toNat) (((⟨s.toArray⟩:ByteArray).get! (i+2)).toNat) (((⟨s.toArray⟩:ByteArray).get! (i+3)).toNat) with h1|h1|h1|h1|h1
 ·exact absurd h1.1 h
 ·rw [h1.2.2.2.2];exact h1.2.2.2.1
 ·obtain ⟨_,_,_,_,h2,_,h3⟩:=h1;rw [h3];show 128≤_;omega
 ·obtain ⟨_,_,_,_,_,h2,_,h3⟩:=h1;rw [h3];show 128≤_;omega
 ·rw [h1];decide
theorem isD_iff (c:UInt8):isD c=true ↔ 48≤c.toNat∧c.toNat≤57:=by unfold isD;rw [Bool.and_eq_true,decide_eq_true_eq,decide_eq_true_eq]
theorem rune_yes (s:List UInt8) (i:Nat) (h:isD (s.getD i 0)=true):sdecode s i=((s.getD i 0).toNat,1):=sdecode_ascii s i (by have:=(isD_iff _).1 h;omega)
theorem rune_no (s:List UInt8) (i:Nat) (h:isD (s.getD i 0)=false):(sdecode s i).1 < 48∨57 < (sdecode s i).1:=by
 by_cases h1:(s.getD i 0).toNat < 128
 ·rw [sdecode_ascii s i h1]
  show (s.getD i 0).toNat < 48∨57 < (s.getD i 0).toNat
  false_or_by_contra
  have:=(isD_iff (s.getD i 0)).2 ⟨by omega,by omega⟩
  rw [h] at this;cases this
 ·have:=sdecode_other s i h1;omega
theorem wrap_i32 {n:Int} (h1 : -2147483648≤n) (h2:n≤2147483647):IntKind.i32.wrap n=n:=by
 unfold IntKind.wrap
 simp only [IntKind.bits,IntKind.signed]
 simp;omega
end Sh

namespace Sh
open Go Go.Proofs
def iL (l:List Int):DV:=.list (l.map (DV.int .i64))
theorem c_when (b:Bool) (e:Int):PC 84 [.bool b,DV.int .i64 (e)] (DV.int .i64 (whenE b e)):=by
 refine pureCall_ofR dh84 rfl ?_
 conv=>whnf
 refine ⟨fun hb=>?_,fun hb=>?_⟩<;>try (exact absurd hb (by decide))
 all_goals conv=>whnf
 all_goals subst hb;rfl
theorem c_within (n l h:Int):PC 99 [DV.int .i64 (n),DV.int .i64 (l),DV.int .i64 (h)] (DV.int .i64 (withE n l h)):=by
 refine pureCall_ofR dh99 rfl ?_
 conv=>whnf
 refine ⟨fun hb=>?_,fun hb=>?_⟩<;>try (exact absurd hb (by decide))
 all_goals conv=>whnf
 ·refine .inl ?_
  conv=>whnf
  refine ⟨_,c_when ..,?_⟩
  conv=>whnf
  exact int_eq (by simp_all [withE,whenE];split<;>split<;>omega)
 ·refine .inl ?_
  conv=>whnf
  refine ⟨_,c_when ..,?_⟩
  conv=>whnf
  exact int_eq (by simp_all [withE,whenE])
theorem c_first (l:List Int) (hl:l.length < 4611686018427387904):PC 81 [iL l] (DV.int .i64 (firstE l)):=by
 refine pureCall_ofR dh81 rfl ?_
 conv=>whnf
 refine dwp_loopR (P:=Tryz.prog) (G:=GC) (k:=dk81_0) (b:=db81_0) (α:=Nat) (fun i=>[(5,iL l),(6,.int .i64 (l.map (DV.int .i64)).length),(7,.int .i64 i)]) (fun _=>[]) (fun i=>i≤l.length∧firstE l=firstE (l.drop i)) (fun i=>l.length - i) 0 ⟨rfl,rfl,rfl⟩ ⟨Nat.zero_le _,rfl⟩ ?_
 intro i ⟨h1,h2⟩
 conv=>whnf
 refine ⟨fun hb=>?_,fun hb=>?_⟩<;>try (exact absurd hb (by decide))
 ·have hi:i < l.length:=by simpa using hb
  have hd:=firstE_drop l i hi
  conv=>whnf
  rw [getD_enc _ _ (i) 0 hi]
  refine ⟨idxA hi rfl,?_⟩
  conv=>whnf
  refine ⟨fun hb=>?_,fun hb=>?_⟩<;>try (exact absurd hb (by decide))
  ·conv=>whnf
   exact int_eq (by simp_all)
  ·conv=>whnf
   rw [wrap_succ i (by omega)]
   exact ⟨i+1,rfl,rfl,rfl,⟨hi,by simp_all⟩,by omega⟩
 ·conv=>whnf
  have:i=l.length:=by simp at hb;omega
  subst this
  exact int_eq (by rw [h2];simp [firstE])
end Sh

namespace Sh
open Go
def sgnS (s:List UInt8):Int×Bool:=if s.getD 0 0=45 then (0 - (digS (s.drop 1)).1,(digS (s.drop 1)).2 && decide (0 < (digS (s.drop 1)).1)) else digS s
theorem valD_ge:∀ (s:List UInt8) (n:Int),s.all isD=true→0≤n→n≤valD s n
 |[],n,_,_=>Int.le_refl _
 |c :: r,n,h,h0=>by
  rw [List.all_cons,Bool.and_eq_true] at h
  have hc:=(isD_iff c).1 h.1
  have:=valD_ge r (10 * n+((c.toNat:Int) - 48)) h.2 (by omega)
  show n≤valD r _
  omega
theorem valD_pos {s:List UInt8} (h:s.all isD=true) (h0:s≠[]) (h48:s.getD 0 0≠48):0 < valD s 0:=by
 cases s with
 |nil=>exact absurd rfl h0
 |cons c r =>
  rw [List.all_cons,Bool.and_eq_true] at h
  have hc:=(isD_iff c).1 h.1
  have hne:c≠48:=h48
  have hcn:c.toNat≠48:=fun e=>hne (UInt8.toNat_inj.1 e)
  have:=valD_ge r (10 * 0+((c.toNat:Int) - 48)) h.2 (by omega)
  show 0 < valD r _
  omega
theorem digS_true {s:List UInt8} (h:(digS s).2=true):s.all isD=true∧s≠[]∧s.length≤9∧(s.length=1∨s.getD 0 0≠48)∧(digS s).1=valD s 0:=by
 unfold digS at h ⊢
 cases hb:badD s with
 |true=>rw [hb] at h;exact absurd h (by simp)
 |false =>
  cases ha:s.all isD with
  |false=>rw [hb,ha] at h;exact absurd h (by simp)
  |true =>
   unfold badD at hb
   rw [Bool.or_eq_false_iff,Bool.or_eq_false_iff,decide_eq_false_iff_not,decide_eq_false_iff_not,Bool.and_eq_false_iff,decide_eq_false_iff_not,decide_eq_false_iff_not] at hb
   have h0:=List.length_pos_iff.2 hb.1.1
   refine ⟨rfl,hb.1.1,by omega,?_,rfl⟩
   rcases hb.2 with h1|h1
   ·left;omega
   ·exact .inr h1
def nmS (b:List UInt8) (m:Bool):Int×Bool:=if b.all isD && decide (b.length≤9) && decide (b≠[]) && !(decide (b.getD 0 0=48) && (decide (1 < b.length) || m)) then (if m then -(valD b 0) else valD b 0,true) else (0,false)
theorem nmS_dig (b:List UInt8):nmS b false=digS b:=by
 unfold nmS digS badD
 have h0:b=[] ↔ b.length=0:=List.length_eq_zero_iff.symm
 have e0:decide (b=[])=decide (b.length=0):=by simp only [h0]
 have e00:decide (b≠[])=!decide (b.length=0):=by simp only [ne_eq,h0,decide_not]
 have e9:decide (9 < b.length)=!decide (b.length≤9):=by rw [← decide_not];congr 1;apply propext;omega
 rw [e0,e00,e9]
 generalize b.all isD=A
 generalize decide (b.getD 0 0=48)=Z
 generalize decide (b.length≤9)=N
 generalize decide (b.length=0)=E
 generalize decide (1 < b.length)=O
 cases A<;>cases Z<;>cases N<;>cases E<;>cases O<;>rfl
theorem valD_zero {b:List UInt8} (h:b.all isD=true) (h0:b.length=1) (h48:b.getD 0 0=48):valD b 0=0:=by
 obtain ⟨c,rfl⟩:=List.length_eq_one_iff.1 h0
 have:c=48:=h48
 subst this;rfl
theorem nmS_neg (b:List UInt8):nmS b true=(0 - (digS b).1,(digS b).2 && decide (0 < (digS b).1)):=by
 cases hd:(digS b).2 with
 |false =>
  have h1:(digS b).1=0:=by
   unfold digS at hd ⊢
   split
   ·rfl
   ·rename_i h1;rw [if_neg h1] at hd;cases hd
  have hn:(nmS b false).2=false:=by rw [nmS_dig];exact hd
  have:nmS b true=(0,false):=by
   unfold nmS at hn ⊢
   rw [if_neg]
   intro h
   rw [if_pos] at hn
   ·cases hn
   ·revert h
    generalize b.all isD=A
    generalize decide (b.getD 0 0=48)=Z
    generalize decide (b.length≤9)=N
    generalize decide (b≠[])=E
    generalize decide (1 < b.length)=O
    cases A<;>cases Z<;>cases N<;>cases E<;>cases O<;>simp
  rw [this,h1];rfl
 |true =>
  obtain ⟨h1,h2,h3,h4,h5⟩:=digS_true hd
  have hl:=List.length_pos_iff.2 h2
  rw [h5]
  unfold nmS
  rw [h1,decide_eq_true h3,decide_eq_true h2]
  by_cases h48:b.getD 0 0=48
  ·have hl1:b.length=1:=by rcases h4 with h|h;exact h;exact absurd h48 h
   rw [valD_zero h1 hl1 h48,decide_eq_true h48]
   simp
  ·have:=valD_pos h1 h2 h48
   rw [decide_eq_false h48,decide_eq_true this]
   simp
theorem sgn_nm (s:List UInt8):sgnS s=nmS (Lib.trimPrefix s [45]) (Lib.hasPrefix s [45]):=by
 cases s with
 |nil =>
  show digS []=_
  rw [show Lib.hasPrefix ([]:List UInt8) [45]=false from rfl,nmS_dig];rfl
 |cons c r =>
  by_cases h:c=45
  ·subst h
   have e1:Lib.hasPrefix (45 :: r) [45]=true:=by simp [Lib.hasPrefix,List.isPrefixOf]
   have e2:Lib.trimPrefix (45 :: r) [45]=r:=by unfold Lib.trimPrefix;rw [e1];rfl
   rw [e1,e2,nmS_neg]
   unfold sgnS
   rw [if_pos (show (45 :: r).getD 0 0=45 from rfl)];rfl
  ·have e1:Lib.hasPrefix (c :: r) [45]=false:=by
    have:((45:UInt8) == c)=false:=beq_eq_false_iff_ne.2 (fun e=>h e.symm)
    simp [Lib.hasPrefix,List.isPrefixOf,this]
    try exact fun e=>h e.symm
   have e2:Lib.trimPrefix (c :: r) [45]=c :: r:=by unfold Lib.trimPrefix;rw [e1];rfl
   rw [e1,e2,nmS_dig]
   unfold sgnS
   rw [if_neg (by exact h)]
theorem trimP_len (s p:List UInt8):(Lib.trimPrefix s p).length≤s.length:=by
 unfold Lib.trimPrefix;split<;>simp
end Sh

namespace Sh
open Go
def isLet (c:UInt8):Bool:=(decide (97≤c.toNat) && decide (c.toNat≤122)) || (decide (65≤c.toNat) && decide (c.toNat≤90))
def isOth (c:UInt8):Bool:=decide (c.toNat=95) || (decide (48≤c.toNat) && decide (c.toNat≤57))
def nmAt (s:List UInt8) (j:Nat):Bool:=isLet (s.getD j 0) || (decide (j≠0) && isOth (s.getD j 0))
def nameB (s:List UInt8):Bool:=decide (s≠[]) && decide (s.length≤24) && (List.range s.length).all (nmAt s)
theorem nameB_bad {s:List UInt8} {j:Nat} (hj:j < s.length) (h:nmAt s j=false):nameB s=false:=by
 unfold nameB
 have:(List.range s.length).all (nmAt s)=false:=by
  rw [List.all_eq_false]
  exact ⟨j,List.mem_range.2 hj,by rw [h];exact Bool.false_ne_true⟩
 rw [this,Bool.and_false]
theorem nameB_ok {s:List UInt8} (h:∀ j,j < s.length→nmAt s j=true):nameB s=(decide (s≠[]) && decide (s.length≤24)):=by
 unfold nameB
 have:(List.range s.length).all (nmAt s)=true:=by
  rw [List.all_eq_true]
  exact fun j hj=>h j (List.mem_range.1 hj)
 rw [this,Bool.and_true]
theorem nameB_len {s:List UInt8} (h:nameB s=true):0 < s.length∧s.length≤24:=by
 unfold nameB at h
 simp only [Bool.and_eq_true,decide_eq_true_eq] at h
 exact ⟨List.length_pos_iff.2 h.1.1,h.1.2⟩
theorem isLet_iff (c:UInt8):isLet c=true ↔ (97≤c.toNat∧c.toNat≤122)∨(65≤c.toNat∧c.toNat≤90):=by
 unfold isLet;simp only [Bool.or_eq_true,Bool.and_eq_true,decide_eq_true_eq]
theorem isOth_iff (c:UInt8):isOth c=true ↔ c.toNat=95∨(48≤c.toNat∧c.toNat≤57):=by
 unfold isOth;simp only [Bool.or_eq_true,Bool.and_eq_true,decide_eq_true_eq]
theorem nmAt_iff (s:List UInt8) (j:Nat):nmAt s j=true ↔ isLet (s.getD j 0)=true∨(j≠0∧isOth (s.getD j 0)=true):=by
 unfold nmAt;simp only [Bool.or_eq_true,Bool.and_eq_true,decide_eq_true_eq]
theorem nmAt_hi {s:List UInt8} {j:Nat} (h:128≤(s.getD j 0).toNat):nmAt s j=false:=by
 cases e:nmAt s j with
 |false=>rfl
 |true =>
  rw [nmAt_iff,isLet_iff,isOth_iff] at e
  omega
end Sh

namespace Sh
open Go
section
variable {α:Type}
def parEG (wr:List (List UInt8)→Bool) (rows:List (List UInt8)):Nat→Nat→Option Nat
 |0,_=>none
 |n+1,i=>if wr (splitC 32 (rows.getD i [])) then some i else parEG wr rows n (i+1)
def outG (rd:List (List UInt8)→α) (rows:List (List UInt8)) (m:Nat):List α:=(rows.take m).map fun r=>rd (splitC 32 r)
def parG (wr:List (List UInt8)→Bool) (rd:List (List UInt8)→α) (chk:List α→Int) (s:List UInt8):List α×Int×Int :=
 if 4096 < s.length then ([],0,26) else
 match parEG wr (splitC 10 s) ((splitC 10 s).length - 1) 0 with
 |some i=>([],(i:Int),25)
 |none=>if (splitC 10 s).getD ((splitC 10 s).length - 1) []≠[] then ([],((splitC 10 s).length - 1:Nat),25)
  else if chk (outG rd (splitC 10 s) ((splitC 10 s).length - 1))≠0 then ([],((splitC 10 s).length - 1:Nat),chk (outG rd (splitC 10 s) ((splitC 10 s).length - 1)))
  else (outG rd (splitC 10 s) ((splitC 10 s).length - 1),0,0)
def prtG (ln:α→List UInt8) (l:List α):List UInt8:=l.flatMap fun a=>ln a++[10]
theorem parEG_step {wr:List (List UInt8)→Bool} (rows:List (List UInt8)) (n i:Nat) (hi:i < n) (h:wr (splitC 32 (rows.getD i []))=false):parEG wr rows (n - i) i=parEG wr rows (n - (i+1)) (i+1):=by
 rw [show n - i=(n - (i+1))+1 by omega,parEG,h];rfl
theorem parEG_at {wr:List (List UInt8)→Bool} (rows:List (List UInt8)) (n i:Nat) (hi:i < n) (h:wr (splitC 32 (rows.getD i []))=true):parEG wr rows (n - i) i=some i:=by
 rw [show n - i=(n - (i+1))+1 by omega,parEG,h];rfl
theorem outG_succ (rd:List (List UInt8)→α) (rows:List (List UInt8)) (i:Nat) (h:i < rows.length):outG rd rows (i+1)=outG rd rows i++[rd (splitC 32 (rows.getD i []))]:=take_map_succ _ _ _ _ h
theorem outG_len (rd:List (List UInt8)→α) (rows:List (List UInt8)) (i:Nat) (h:i≤rows.length):(outG rd rows i).length=i:=by unfold outG;simp;omega
theorem parG_bad {wr:List (List UInt8)→Bool} {rd:List (List UInt8)→α} {chk:List α→Int} {s:List UInt8} {rows:List (List UInt8)} {m i:Nat} (h:¬ 4096 < s.length) (hr:splitC 10 s=rows) (hm:rows.length=m+1) (he:parEG wr rows m 0=some i):parG wr rd chk s=([],(i:Int),25):=by
 unfold parG
 rw [if_neg h,hr,hm,Nat.add_sub_cancel,he]
theorem parG_ok {wr:List (List UInt8)→Bool} {rd:List (List UInt8)→α} {chk:List α→Int} {s:List UInt8} {rows:List (List UInt8)} {m:Nat} (h:¬ 4096 < s.length) (hr:splitC 10 s=rows) (hm:rows.length=m+1) (he:parEG wr rows m 0=none) :
  parG wr rd chk s=if rows.getD m []≠[] then ([],(m:Int),25) else if chk (outG rd rows m)≠0 then ([],(m:Int),chk (outG rd rows m)) else (outG rd rows m,0,0):=by
 unfold parG
 rw [if_neg h,hr,hm,Nat.add_sub_cancel,he]
end
end Sh

namespace Sh
open Go
structure Iv where
 lo:Int
 hi:Int
structure Of where
 nm:List UInt8
 sl:Int
 un:Int
 pr:Int
structure Ba where
 ca:Int
 ra:Int
 lo:Int
 we:Int
 le:Int
structure Vr where
 fr:Int
 pr:Int
def I0:Iv:=⟨0,0⟩
def O0:Of:=⟨[],0,0,0⟩
def Vr0:Vr:=⟨0,0⟩
def chkIv (x:Iv):Int:=firstE [withE x.lo 0 1000000,withE x.hi 0 1000000,whenE (decide (x.hi < x.lo)) 11]
def unE (n:Int):Int:=withE n 0 1000000
def prE (n:Int):Int:=withE n (-100000) 100000
def chkFc (l:List Iv):Int:=firstE [countE l.length 24,firstE (l.map chkIv)]
def chkUn (l:List Int):Int:=firstE [countE l.length 24,firstE (l.map unE)]
def chkPs (l:List Int):Int:=firstE [countE l.length 24,firstE (l.map prE)]
def slB (slots n:Int):Bool:=decide (n < 0) || decide (slots≤n)
def ofE (slots:Int) (kn:List (List UInt8)) (o:Of):Int:=firstE [whenE (!nameB o.nm) 8,whenE (decide (o.nm ∈ kn)) 9,whenE (slB slots o.sl) 10,withE o.un 1 1000000,prE o.pr]
def chkOs (slots:Int):List (List UInt8)→List Of→Int
 |_,[]=>0
 |kn,o :: r=>if ofE slots kn o≠0 then ofE slots kn o else chkOs slots (kn++[o.nm]) r
def headE (n:Nat) (slots:Int):Int:=firstE [withE slots 1 24,whenE (decide (32 < (n:Int))) 5]
def chkOf (l:List Of) (slots:Int):Int:=if headE l.length slots≠0 then headE l.length slots else chkOs slots [] l
def knO (l:List Of) (i:Nat):List (List UInt8):=(l.take i).map (·.nm)
theorem knO_succ (l:List Of) (i:Nat) (h:i < l.length):knO l (i+1)=knO l i++[(l.getD i O0).nm]:=take_map_succ _ _ _ _ h
theorem chkOs_drop (slots:Int) (l:List Of) (i:Nat) (h:i < l.length):chkOs slots (knO l i) (l.drop i)=if ofE slots (knO l i) (l.getD i O0)≠0 then ofE slots (knO l i) (l.getD i O0) else chkOs slots (knO l (i+1)) (l.drop (i+1)):=by
 rw [drop_getD l i O0 h,knO_succ l i h];rfl
def offS (l:List Of) (k:Int):Int:=sumI (l.map fun o=>if o.sl=k then o.un else 0)
theorem offS_succ (l:List Of) (k:Int) (i:Nat) (h:i < l.length):offS (l.take (i+1)) k=offS (l.take i) k+(if (l.getD i O0).sl=k then (l.getD i O0).un else 0):=by
 unfold offS
 rw [take_map_succ _ l i O0 h,sumI_append,sumI_one]
def OkO (slots:Int) (o:Of):Prop:=nameB o.nm=true∧0≤o.sl∧o.sl < slots∧1≤o.un∧o.un≤1000000 ∧ -100000≤o.pr∧o.pr≤100000
theorem ofE_ok {slots:Int} {kn:List (List UInt8)} {o:Of} (h:ofE slots kn o=0):OkO slots o∧o.nm ∉ kn:=by
 unfold ofE at h
 obtain ⟨h1,h⟩:=firstE_cons h
 obtain ⟨h2,h⟩:=firstE_cons h
 obtain ⟨h3,h⟩:=firstE_cons h
 obtain ⟨h4,h⟩:=firstE_cons h
 obtain ⟨h5,h⟩:=firstE_cons h
 have a1:=whenE_zero h1 (by decide)
 have a2:=whenE_zero h2 (by decide)
 have a3:=whenE_zero h3 (by decide)
 have a4:=withE_zero h4
 have a5:=withE_zero h5
 unfold slB at a3
 rw [Bool.or_eq_false_iff] at a3
 have b1:=of_decide_eq_false a3.1
 have b2:=of_decide_eq_false a3.2
 exact ⟨⟨by simpa using a1,by omega,by omega,a4.1,a4.2,a5.1,a5.2⟩,of_decide_eq_false a2⟩
theorem chkOs_ok {slots:Int}:∀ {l:List Of} {kn:List (List UInt8)},chkOs slots kn l=0→(∀ o ∈ l,OkO slots o)∧(∀ o ∈ l,o.nm ∉ kn)∧(l.map (·.nm)).Nodup
 |[],_,_=>⟨(fun _ h=>by cases h),(fun _ h=>by cases h),List.nodup_nil⟩
 |o :: r,kn,h=>by
  unfold chkOs at h
  split at h
  ·contradiction
  ·rename_i h0
   obtain ⟨a1,a2⟩:=ofE_ok (Classical.not_not.1 h0)
   obtain ⟨b1,b2,b3⟩:=chkOs_ok h
   refine ⟨fun x hx=>?_,fun x hx=>?_,?_⟩
   ·rcases List.mem_cons.1 hx with rfl|hx
    ·exact a1
    ·exact b1 x hx
   ·rcases List.mem_cons.1 hx with rfl|hx
    ·exact a2
    ·exact fun hc=>b2 x hx (List.mem_append_left _ hc)
   ·rw [List.map_cons,List.nodup_cons]
    refine ⟨fun hc=>?_,b3⟩
    obtain ⟨x,hx,e⟩:=List.mem_map.1 hc
    exact b2 x hx (by rw [e];simp)
theorem chkOf_ok {l:List Of} {slots:Int} (h:chkOf l slots=0):1≤slots∧slots≤24∧l.length≤32∧(∀ o ∈ l,OkO slots o)∧(l.map (·.nm)).Nodup:=by
 unfold chkOf at h
 split at h
 ·contradiction
 ·rename_i h0
  have h0:headE l.length slots=0:=Classical.not_not.1 h0
  unfold headE at h0
  obtain ⟨h1,h0⟩:=firstE_cons h0
  obtain ⟨h2,h0⟩:=firstE_cons h0
  have a1:=withE_zero h1
  have a2:=of_decide_eq_false (whenE_zero h2 (by decide))
  obtain ⟨b1,_,b3⟩:=chkOs_ok h
  exact ⟨a1.1,a1.2,by omega,b1,b3⟩
theorem countE_ok {n:Nat} {m:Int} (h:countE n m=0):0 < n∧(n:Int)≤m:=by
 unfold countE at h
 obtain ⟨h1,h⟩:=firstE_cons h
 obtain ⟨h2,h⟩:=firstE_cons h
 have a1:=of_decide_eq_false (whenE_zero h1 (by decide))
 have a2:=of_decide_eq_false (whenE_zero h2 (by decide))
 omega
theorem firstE_all {l:List Int} {g:Int→Int} (h:firstE (l.map g)=0):∀ x ∈ l,g x=0:=fun x hx=>firstE_mem h _ (List.mem_map_of_mem hx)
theorem chkUn_ok {l:List Int} (h:chkUn l=0):0 < l.length∧l.length≤24∧∀ x ∈ l,0≤x∧x≤1000000:=by
 unfold chkUn at h
 obtain ⟨h1,h⟩:=firstE_cons h
 obtain ⟨h2,h⟩:=firstE_cons h
 have a:=countE_ok h1
 exact ⟨a.1,by omega,fun x hx=>withE_zero (firstE_all h2 x hx)⟩
theorem chkPs_ok {l:List Int} (h:chkPs l=0):0 < l.length∧l.length≤24∧∀ x ∈ l,-100000≤x∧x≤100000:=by
 unfold chkPs at h
 obtain ⟨h1,h⟩:=firstE_cons h
 obtain ⟨h2,h⟩:=firstE_cons h
 have a:=countE_ok h1
 exact ⟨a.1,by omega,fun x hx=>withE_zero (firstE_all h2 x hx)⟩
theorem chkFc_ok {l:List Iv} (h:chkFc l=0):0 < l.length∧l.length≤24∧∀ x ∈ l,0≤x.lo∧x.lo≤x.hi∧x.hi≤1000000:=by
 unfold chkFc at h
 obtain ⟨h1,h⟩:=firstE_cons h
 obtain ⟨h2,h⟩:=firstE_cons h
 have a:=countE_ok h1
 refine ⟨a.1,by omega,fun x hx=>?_⟩
 have h3:chkIv x=0:=firstE_mem h2 _ (List.mem_map_of_mem hx)
 unfold chkIv at h3
 obtain ⟨k1,h3⟩:=firstE_cons h3
 obtain ⟨k2,h3⟩:=firstE_cons h3
 obtain ⟨k3,h3⟩:=firstE_cons h3
 have b1:=withE_zero k1
 have b2:=withE_zero k2
 have b3:=of_decide_eq_false (whenE_zero k3 (by decide))
 omega
theorem offS_bd {slots:Int} {l:List Of} (h:∀ o ∈ l,OkO slots o) (k:Int):0≤offS l k∧offS l k≤l.length * 1000000:=by
 have:=sumI_bd (l:=l.map fun o=>if o.sl=k then o.un else 0) (A:=0) (B:=1000000) (fun x hx=>by
  obtain ⟨o,ho,rfl⟩:=List.mem_map.1 hx
  have:=h o ho
  obtain ⟨_,_,_,h1,h2,_⟩:=this
  split<;>omega)
 rw [List.length_map] at this
 unfold offS
 omega
end Sh

namespace Sh
open Go Go.Proofs
def encV (x:Iv):DV:=.agg [DV.int .i64 (x.lo),DV.int .i64 (x.hi)]
def ivV (l:List Iv):DV:=.list (l.map encV)
def encO (o:Of):DV:=.agg [.str o.nm,DV.int .i64 (o.sl),DV.int .i64 (o.un),DV.int .i64 (o.pr)]
def ofsV (l:List Of):DV:=.list (l.map encO)
def encB (b:Ba):DV:=.agg [DV.int .i64 (b.ca),DV.int .i64 (b.ra),DV.int .i64 (b.lo),DV.int .i64 (b.we),DV.int .i64 (b.le)]
def encW (v:Vr):DV:=.agg [DV.int .i64 (v.fr),DV.int .i64 (v.pr)]
def vrV (l:List Vr):DV:=.list (l.map encW)
def oI {α:Type} (g:α→Int) (l:List α) (i:Nat):List DV:=(l.take i).map fun c=>DV.int .i64 (g c)
theorem oI_len {α:Type} (g:α→Int) (l:List α) (i:Nat) (h:i≤l.length):(oI g l i).length=i:=by simp [oI];omega
theorem oI_succ {α:Type} (g:α→Int) (l:List α) (i:Nat) (d:α) (h:i < l.length):oI g l (i+1)=oI g l i++[DV.int .i64 (g (l.getD i d))]:=take_map_succ _ l i d h
theorem oI_all {α:Type} (g:α→Int) (l:List α):oI g l l.length=(l.map g).map (DV.int .i64):=by simp [oI]
theorem c_mappedV (l:List Iv) (f:FuncId) (g:Iv→Int) (hl:l.length < 1073741824) (hf:∀ c ∈ l,PC f [encV c] (DV.int .i64 (g c))):PC 95 [ivV l,.func f []] (iL (l.map g)):=by
 refine pureCall_ofR dh95 rfl ?_
 conv=>whnf
 refine dwp_loopU (P:=Tryz.prog) (G:=GC) (k:=dk95_0) (b:=db95_0) (α:=Nat) (fun i=>[(5,.own 5 0 (oI g l i).length (oI g l i).length),(10,DV.int .i64 (i))]) (fun i=>[(5,.row 1 (oI g l i) false)]) (fun i=>i≤l.length) (fun i=>l.length - i) 0 (Nat.zero_le _) ?_
 conv=>whnf
 refine ⟨rfl,rfl,?_⟩
 conv=>whnf
 refine ⟨rfl,?_⟩
 intro i h1
 conv=>whnf
 refine ⟨fun hb=>?_,fun hb=>?_⟩
 ·have hi:i < l.length:=by simpa using hb
  clear hb
  conv=>whnf
  rw [getD_enc _ _ (i) I0 hi]
  refine ⟨idxA hi rfl,?_⟩
  conv=>whnf
  refine .inl ?_
  conv=>whnf
  refine ⟨_,hf _ (getD_in I0 hi),?_⟩
  conv=>whnf
  refine ⟨⟨rfl,rfl,rfl,by rw [oI_len g l i h1];simp;omega,fun e he=>by simp at he;subst he;rfl⟩,?_⟩
  conv=>whnf
  rw [wrap_succ i (by omega)]
  refine ⟨i+1,rfl,?_,?_,hi,by omega⟩
  ·rw [oI_succ g l i I0 hi];rfl
  ·rw [oI_succ g l i I0 hi];rfl
 ·have hi:i=l.length:=by have:=of_decide_eq_false hb;simp at this;omega
  clear hb
  conv=>whnf
  exact ⟨rfl,by rw [window_full,hi,oI_all];rfl⟩
theorem c_mappedI (l:List Int) (f:FuncId) (g:Int→Int) (hl:l.length < 1073741824) (hf:∀ c ∈ l,PC f [DV.int .i64 (c)] (DV.int .i64 (g c))):PC 85 [iL l,.func f []] (iL (l.map g)):=by
 refine pureCall_ofR dh85 rfl ?_
 conv=>whnf
 refine dwp_loopU (P:=Tryz.prog) (G:=GC) (k:=dk85_0) (b:=db85_0) (α:=Nat) (fun i=>[(5,.own 5 0 (oI g l i).length (oI g l i).length),(10,DV.int .i64 (i))]) (fun i=>[(5,.row 1 (oI g l i) false)]) (fun i=>i≤l.length) (fun i=>l.length - i) 0 (Nat.zero_le _) ?_
 conv=>whnf
 refine ⟨rfl,rfl,?_⟩
 conv=>whnf
 refine ⟨rfl,?_⟩
 intro i h1
 conv=>whnf
 refine ⟨fun hb=>?_,fun hb=>?_⟩
 ·have hi:i < l.length:=by simpa using hb
  clear hb
  conv=>whnf
  rw [getD_enc _ _ (i) 0 hi]
  refine ⟨idxA hi rfl,?_⟩
  conv=>whnf
  refine .inl ?_
  conv=>whnf
  refine ⟨_,hf _ (getD_in 0 hi),?_⟩
  conv=>whnf
  refine ⟨⟨rfl,rfl,rfl,by rw [oI_len g l i h1];simp;omega,fun e he=>by simp at he;subst he;rfl⟩,?_⟩
  conv=>whnf
  rw [wrap_succ i (by omega)]
  refine ⟨i+1,rfl,?_,?_,hi,by omega⟩
  ·rw [oI_succ g l i 0 hi];rfl
  ·rw [oI_succ g l i 0 hi];rfl
 ·have hi:i=l.length:=by have:=of_decide_eq_false hb;simp at this;omega
  clear hb
  conv=>whnf
  exact ⟨rfl,by rw [window_full,hi,oI_all];rfl⟩
theorem c_sized (n:Int):PC 94 [DV.int .i64 (n)] (DV.int .i64 (countE n 24)):=by
 refine pureCall_ofR dh94 rfl ?_
 conv=>whnf
 repeat' (first
  |(refine ⟨fun hg=>?_,fun hg=>?_⟩<;>first|contradiction|(conv=>whnf))
  |(refine Or.inl ?_;conv=>whnf)
  |(refine ⟨_,c_when ..,?_⟩;conv=>whnf)
  |(refine ⟨_,c_first [_,_] (by simp),?_⟩;conv=>whnf)
  |(refine And.intro ?_ ?_;kernel_rfl;conv=>whnf))
 rfl
theorem c_checkUnits (n:Int):PC 86 [DV.int .i64 (n)] (DV.int .i64 (unE n)):=by
 refine pureCall_ofR dh86 rfl ?_
 conv=>whnf
 repeat' (first
  |(refine ⟨fun hg=>?_,fun hg=>?_⟩<;>first|contradiction|(conv=>whnf))
  |(refine Or.inl ?_;conv=>whnf)
  |(refine ⟨_,c_within ..,?_⟩;conv=>whnf)
  |(refine And.intro ?_ ?_;kernel_rfl;conv=>whnf))
 rfl
theorem c_checkPrice (n:Int):PC 100 [DV.int .i64 (n)] (DV.int .i64 (prE n)):=by
 refine pureCall_ofR dh100 rfl ?_
 conv=>whnf
 repeat' (first
  |(refine ⟨fun hg=>?_,fun hg=>?_⟩<;>first|contradiction|(conv=>whnf))
  |(refine Or.inl ?_;conv=>whnf)
  |(refine ⟨_,c_within ..,?_⟩;conv=>whnf)
  |(refine And.intro ?_ ?_;kernel_rfl;conv=>whnf))
 rfl
theorem c_checkForecast (x:Iv):PC 96 [encV x] (DV.int .i64 (chkIv x)):=by
 refine pureCall_ofR dh96 rfl ?_
 conv=>whnf
 repeat' (first
  |(refine ⟨fun hg=>?_,fun hg=>?_⟩<;>first|contradiction|(conv=>whnf))
  |(refine Or.inl ?_;conv=>whnf)
  |(refine ⟨_,c_checkUnits ..,?_⟩;conv=>whnf)
  |(refine ⟨_,c_when ..,?_⟩;conv=>whnf)
  |(refine ⟨_,c_first [_,_,_] (by simp),?_⟩;conv=>whnf)
  |(refine And.intro ?_ ?_;kernel_rfl;conv=>whnf))
 rfl
theorem c_CheckForecasts (l:List Iv) (hl:l.length < 1073741824):PC 26 [ivV l] (DV.int .i64 (chkFc l)):=by
 have e0:((l.map encV).length:Int)=l.length:=by simp
 have k1:=c_mappedV l 96 chkIv hl (fun c _=>c_checkForecast c)
 have k2:=c_first (l.map chkIv) (by simp;omega)
 refine pureCall_ofR dh26 rfl ?_
 conv=>whnf
 repeat' (first
  |(refine ⟨fun hg=>?_,fun hg=>?_⟩<;>first|contradiction|(conv=>whnf))
  |(refine Or.inl ?_;conv=>whnf)
  |(refine ⟨_,k1,?_⟩;conv=>whnf)
  |(refine ⟨_,k2,?_⟩;conv=>whnf)
  |(refine ⟨_,c_sized ..,?_⟩;conv=>whnf)
  |(refine ⟨_,c_first [_,_] (by simp),?_⟩;conv=>whnf)
  |(refine And.intro ?_ ?_;kernel_rfl;conv=>whnf))
 refine int_eq ?_
 unfold chkFc
 rw [e0]
theorem c_checkSlots (n:Int):PC 97 [DV.int .i64 (n)] (DV.int .i64 (withE n 1 24)):=by
 refine pureCall_ofR dh97 rfl ?_
 conv=>whnf
 repeat' (first
  |(refine ⟨fun hg=>?_,fun hg=>?_⟩<;>first|contradiction|(conv=>whnf))
  |(refine Or.inl ?_;conv=>whnf)
  |(refine ⟨_,c_within ..,?_⟩;conv=>whnf)
  |(refine And.intro ?_ ?_;kernel_rfl;conv=>whnf))
 rfl
theorem c_checkDelivery (l:List Int) (hl:l.length < 1073741824):PC 83 [iL l] (DV.int .i64 (chkUn l)):=by
 have e0:((l.map (DV.int .i64)).length:Int)=l.length:=by simp
 have k1:=c_mappedI l 86 unE hl (fun c _=>c_checkUnits c)
 have k2:=c_first (l.map unE) (by simp;omega)
 refine pureCall_ofR dh83 rfl ?_
 conv=>whnf
 repeat' (first
  |(refine ⟨fun hg=>?_,fun hg=>?_⟩<;>first|contradiction|(conv=>whnf))
  |(refine Or.inl ?_;conv=>whnf)
  |(refine ⟨_,k1,?_⟩;conv=>whnf)
  |(refine ⟨_,k2,?_⟩;conv=>whnf)
  |(refine ⟨_,c_sized ..,?_⟩;conv=>whnf)
  |(refine ⟨_,c_first [_,_] (by simp),?_⟩;conv=>whnf)
  |(refine And.intro ?_ ?_;kernel_rfl;conv=>whnf))
 refine int_eq ?_
 unfold chkUn
 rw [e0]
end Sh

namespace Sh
open Go
def db116_0 : DC := (sq [oq 45 (.bin .lss (.tmp 44) (.tmp 43))] (.seq (.cond (.tmp 45) .skip (.exit 4)) (.seq (.block 5 none (sq [mq 46 44,mq 10 46] (sq [oq 47 (.load (some 5) (.tmp 2)),mq 48 8,mq 49 10,oq 50 (.call (.func 105) [.tmp 47,.tmp 48,.tmp 49]),oq 51 (.un .not (.tmp 50))] (.cond (.tmp 51) (.ops true [mq 52 9,oq 53 (.load (some 5) (.tmp 2)),mq 54 7,mq 55 8,mq 56 10,⟨some 57,.call (.func 106) [.tmp 53,.tmp 54,.tmp 55,.tmp 56],none,[1,2,3,4]⟩,oq 58 (.load none (.tmp 5)),mq 59 6,⟨some 60,.bin .add (.tmp 59) (iq 1),none,[7]⟩,⟨some 61,.iaddr 1 (.tmp 58) (.tmp 60),none,[6,8,7]⟩,⟨some 62,.load none (.tmp 61),none,[9,6,8,7]⟩,mq 63 10,⟨some 64,.iaddr 1 (.tmp 62) (.tmp 63),none,[10,9,6,8,7,11]⟩,⟨some 65,.load none (.tmp 64),none,[12,10,9,6,8,7,11]⟩,⟨some 66,.bin .add (.tmp 57) (.tmp 65),none,[5,1,2,3,4,13,12,10,9,6,8,7,11]⟩,⟨some 67,.minmax true (.tmp 52) [.tmp 66],none,[0,14,5,1,2,3,4,13,12,10,9,6,8,7,11]⟩,⟨some 9,.mov (.tmp 67),none,[15,0,14,5,1,2,3,4,13,12,10,9,6,8,7,11]⟩]) .skip)))) (pq [oq 68 (.bin .add (.tmp 44) (iq 1)),mq 44 68]))))
def dk116_0 : Keep := ⟨[],[2,5,6,7,8,9,29,30,43,44],[2,5,14,21,76,77]⟩
def db116_1 : DC := (sq [oq 31 (.bin .lss (.tmp 30) (.tmp 29))] (.seq (.cond (.tmp 31) .skip (.exit 2)) (.seq (.block 3 (some ⟨[],[2,5,6,7,29,30],[2,5,14,21]⟩) (sq [mq 32 30,mq 8 32] (sq [oq 33 (.load none (.tmp 5)),mq 34 6,oq 35 (.bin .add (.tmp 34) (iq 1)),oq 36 (.iaddr 1 (.tmp 33) (.tmp 35)),oq 37 (.load none (.tmp 36)),mq 38 8,oq 39 (.iaddr 1 (.tmp 37) (.tmp 38)),oq 40 (.load none (.tmp 39)),mq 9 40] (.seq (sq [oq 41 (.faddr 0 1 false (.tmp 2)),oq 42 (.load none (.tmp 41)),oq 43 (.bin .add (.tmp 42) (iq 1)),oq 44 (.mov (iq 0))] (.block 4 (some ⟨[],[2,5,6,7,9,29,30],[2,5,14,21,76,77]⟩) (.loop dk116_0 db116_0))) (.ops true [oq 69 (.load none (.tmp 5)),mq 70 6,oq 71 (.load none (.tmp 5)),mq 72 6,⟨some 73,.iaddr 1 (.tmp 71) (.tmp 72),none,[2,3]⟩,⟨some 74,.load none (.tmp 73),none,[4,2,3]⟩,mq 75 9,⟨some 76,.lit true 1 1 (.int .i64 0) [(0,(.tmp 75))],none,[6]⟩,⟨some 77,.append false 1 (.tmp 74) (.tmp 76),none,[5,4,2,3,7,6]⟩,⟨some 78,.iaddr 1 (.tmp 69) (.tmp 70),none,[0,1,2,3,4,5,6,7,8]⟩,⟨none,.store 1 (.tmp 78) (.tmp 77),none,[9,0,1,2,3,4,5,6,7,8]⟩]))))) (pq [oq 79 (.bin .add (.tmp 30) (iq 1)),mq 30 79]))))
def dk116_1 : Keep := ⟨[],[2,5,6,7,29,30],[2,5,14,21]⟩
def db116_2x : DC := (sq [mq 6 25] (pq [mq 7 26]))
def db116_2 : DC := (.block 1 (some ⟨[],[],[2,5,14,21]⟩) (sq [oq 27 (.faddr 0 1 false (.tmp 2)),oq 28 (.load none (.tmp 27)),oq 29 (.bin .add (.tmp 28) (iq 1)),oq 30 (.mov (iq 0))] (.block 2 (some ⟨[],[],[2,5,14,21]⟩) (.loop dk116_1 db116_1))))
def dk116_2 : Keep := ⟨[],[2,4,5],[2,5,14]⟩
def dc116 : DFunc := ⟨81,2,[.tmp 4],sq [oq 2 (.box 5 (.tmp 0)),oq 4 (.mov (.const (.slice none 0 0)))] (sq [mq 11 1,oq 12 (.len (.tmp 11)),oq 13 (.bin .add (.tmp 12) (iq 1)),oq 14 (.mksliceN 1 (.tmp 13) (.tmp 13)),oq 5 (.alloc (.full []) 1),nq (.store 1 (.tmp 5) (.tmp 14))] (.seq (.ops true [oq 15 (.load none (.tmp 5)),mq 16 1,⟨some 17,.len (.tmp 16),none,[1]⟩,oq 18 (.faddr 0 1 false (.tmp 2)),⟨some 19,.load none (.tmp 18),none,[3]⟩,⟨some 20,.bin .add (.tmp 19) (iq 1),none,[4,3]⟩,⟨some 21,.mkslice 1 (.int .i64 0) (.tmp 20) (.tmp 20),none,[5,4,3]⟩,⟨some 22,.iaddr 1 (.tmp 15) (.tmp 17),none,[0,2,1,3,4,5,6]⟩,⟨none,.store 1 (.tmp 22) (.tmp 21),none,[7,0,2,1,3,4,5,6]⟩]) (.seq (sq [mq 23 1,oq 24 (.call (.func 144) [.tmp 23])] (.block 0 (some ⟨[],[5],[2,5,14,21]⟩) (.rangeF dk116_2 (.tmp 24) [25,26] db116_2x db116_2))) (sq [oq 80 (.load none (.tmp 5)),mq 4 80] .ret))))⟩
theorem dh116:cProg Go.Proofs.Tryz.prog ⟨[(0,⟨[],[2,4,5],[2,5,14]⟩),(2,⟨[],[2,5,6,7,29,30],[2,5,14,21]⟩),(4,⟨[],[2,5,6,7,8,9,29,30,43,44],[2,5,14,21,76,77]⟩)],[(4,⟨[],[2,5,6,7,9,29,30],[2,5,14,21,76,77]⟩),(3,⟨[],[2,5,6,7,29,30],[2,5,14,21]⟩),(2,⟨[],[],[2,5,14,21]⟩),(1,⟨[],[],[2,5,14,21]⟩),(0,⟨[],[5],[2,5,14,21]⟩)],[76,3000014]⟩ 116=some dc116:=by kernel_rfl
def db126_0 : DC := (sq [oq 11 (.bin .lss (.tmp 10) (.tmp 9))] (.seq (.cond (.tmp 11) .skip (.exit 0)) (.seq (.block 1 none (sq [oq 12 (.iaddr 4 (.tmp 8) (.tmp 10)),oq 13 (.load (some 4) (.tmp 12)),oq 7 (.alloc (.agg [.str [],.int .i64 0,.int .i64 0,.int .i64 0]) 4),nq (.store 4 (.tmp 7) (.tmp 13))] (pq [mq 14 5,mq 15 1,oq 16 (.load (some 4) (.tmp 7)),oq 17 (.call (.tmp 15) [.tmp 16]),oq 18 (.lit true 1 1 (.str []) [(0,(.tmp 17))]),oq 19 (.append false 1 (.tmp 14) (.tmp 18)),mq 5 19]))) (pq [oq 20 (.bin .add (.tmp 10) (iq 1)),mq 10 20]))))
def dk126_0 : Keep := ⟨[(5,1)],[1,5,8,9,10],[5]⟩
def dc126 : DFunc := ⟨22,2,[.tmp 4],sq [oq 4 (.mov (.const (.slice none 0 0)))] (sq [oq 5 (.mov (.const (.slice none 0 0)))] (.seq (sq [mq 8 0,oq 9 (.len (.tmp 8)),oq 10 (.mov (iq 0))] (.block 0 (some ⟨[],[5],[5]⟩) (.loop dk126_0 db126_0))) (sq [mq 21 5,mq 4 21] .ret)))⟩
theorem dh126:cProg Go.Proofs.Tryz.prog ⟨[(0,⟨[(5,1)],[1,5,8,9,10],[5]⟩)],[(0,⟨[],[5],[5]⟩)],[18]⟩ 126=some dc126:=by kernel_rfl
def dc127 : DFunc := ⟨19,1,[.tmp 2],sq [oq 1 (.box 4 (.tmp 0)),oq 2 (.mov (.const (.string ⟨#[]⟩)))] (.seq (.ops true [oq 3 (.iaddrA 1 1 false (.global 1) (iq 0)),⟨some 4,.load none (.tmp 3),none,[0]⟩,oq 5 (.faddr 0 1 false (.tmp 1)),⟨some 6,.load none (.tmp 5),none,[2]⟩,⟨some 7,.lit true 1 2 (.str []) [(0,(.tmp 4)),(1,(.tmp 6))],none,[1,0,3,2]⟩,oq 8 (.faddr 1 1 false (.tmp 1)),⟨some 9,.load none (.tmp 8),none,[5]⟩,oq 10 (.faddr 2 1 false (.tmp 1)),⟨some 11,.load none (.tmp 10),none,[7]⟩,oq 12 (.faddr 3 1 false (.tmp 1)),⟨some 13,.load none (.tmp 12),none,[9]⟩,⟨some 14,.lit true 1 3 (.int .i64 0) [(0,(.tmp 9)),(1,(.tmp 11)),(2,(.tmp 13))],none,[6,5,8,7,10,9]⟩,⟨some 15,.call (.func 151) [.tmp 14,.func 152],none,[11,6,5,8,7,10,9]⟩,⟨some 16,.append true 1 (.tmp 7) (.tmp 15),none,[4,1,0,3,2,12,11,6,5,8,7,10,9]⟩,⟨some 17,.call (.func 125) [.tmp 16,.const (.string ⟨#[32]⟩)],none,[13,4,1,0,3,2,12,11,6,5,8,7,10,9]⟩,⟨some 18,.bin .add (.tmp 17) (.const (.string ⟨#[10]⟩)),none,[14,13,4,1,0,3,2,12,11,6,5,8,7,10,9]⟩,⟨some 2,.mov (.tmp 18),none,[15,14,13,4,1,0,3,2,12,11,6,5,8,7,10,9]⟩]) .ret)⟩
theorem dh127:cProg Go.Proofs.Tryz.prog ⟨[],[],[7,14,16]⟩ 127=some dc127:=by kernel_rfl
def dc128 : DFunc := ⟨4,1,[.tmp 2],sq [oq 1 (.box 1 (.tmp 0)),oq 2 (.mov (.const .nilFunc))] (sq [oq 3 (.mkfunc 153 [.tmp 1]),mq 2 3] .ret)⟩
theorem dh128:cProg Go.Proofs.Tryz.prog ⟨[],[],[]⟩ 128=some dc128:=by kernel_rfl
def dc131 : DFunc := ⟨23,1,[.tmp 2],sq [oq 2 (.mov (iq 0))] (sq [mq 6 0,oq 7 (.call (.func 132) [.tmp 6]),oq 8 (.call (.func 157) [.tmp 7]),mq 5 8,oq 9 (.extract (.tmp 5) 0),oq 10 (.extract (.tmp 5) 1),mq 3 9,mq 4 10] (sq [mq 11 0,mq 12 0,oq 13 (.nilCheck (.tmp 12)),oq 14 (.faddr 1 1 false (.tmp 13)),oq 15 (.load none (.tmp 14)),mq 16 15,gq 17 (.mov (.tmp 4)) 16 false,gq 18 (.un .not (.tmp 17)) 16 false,oq 19 (.pick (.tmp 16) (bq true) (.tmp 18)),oq 20 (.nilCheck (.tmp 11)),oq 21 (.faddr 1 1 false (.tmp 20)),nq (.store 1 (.tmp 21) (.tmp 19))] (sq [mq 22 3,mq 2 22] .ret)))⟩
theorem dh131:cProg Go.Proofs.Tryz.prog ⟨[],[],[]⟩ 131=some dc131:=by kernel_rfl
def dc132 : DFunc := ⟨28,1,[.tmp 2],sq [oq 2 (.mov (.const (.string ⟨#[]⟩)))] (.seq (sq [mq 4 0,oq 5 (.nilCheck (.tmp 4)),oq 6 (.faddr 0 1 false (.tmp 5)),oq 7 (.load none (.tmp 6)),oq 8 (.len (.tmp 7)),oq 9 (.bin .eql (.tmp 8) (iq 0))] (.cond (.tmp 9) (sq [mq 10 0,oq 11 (.nilCheck (.tmp 10)),oq 12 (.faddr 1 1 false (.tmp 11)),nq (.store 1 (.tmp 12) (bq true))] (sq [oq 2 (.mov (.const (.string ⟨#[]⟩)))] .ret)) .skip)) (sq [mq 13 0,oq 14 (.nilCheck (.tmp 13)),oq 15 (.faddr 0 1 false (.tmp 14)),oq 16 (.load none (.tmp 15)),oq 17 (.iaddr 1 (.tmp 16) (iq 0)),oq 18 (.load none (.tmp 17)),mq 3 18] (sq [mq 19 0,mq 20 0,oq 21 (.nilCheck (.tmp 20)),oq 22 (.faddr 0 1 false (.tmp 21)),oq 23 (.load none (.tmp 22)),oq 24 (.slice 1 (.tmp 23) (some (iq 1)) none none),oq 25 (.nilCheck (.tmp 19)),oq 26 (.faddr 0 1 false (.tmp 25)),nq (.store 1 (.tmp 26) (.tmp 24))] (sq [mq 27 3,mq 2 27] .ret))))⟩
theorem dh132:cProg Go.Proofs.Tryz.prog ⟨[],[],[]⟩ 132=some dc132:=by kernel_rfl
def db136_0 : DC := (sq [oq 11 (.bin .lss (.tmp 10) (.tmp 9))] (.seq (.cond (.tmp 11) .skip (.exit 0)) (.seq (.block 1 none (sq [oq 12 (.iaddr 4 (.tmp 8) (.tmp 10)),oq 13 (.load (some 4) (.tmp 12)),oq 7 (.alloc (.agg [.str [],.int .i64 0,.int .i64 0,.int .i64 0]) 4),nq (.store 4 (.tmp 7) (.tmp 13))] (pq [mq 14 5,mq 15 1,oq 16 (.load (some 4) (.tmp 7)),oq 17 (.call (.tmp 15) [.tmp 16]),oq 18 (.lit true 1 1 (.int .i64 0) [(0,(.tmp 17))]),oq 19 (.append false 1 (.tmp 14) (.tmp 18)),mq 5 19]))) (pq [oq 20 (.bin .add (.tmp 10) (iq 1)),mq 10 20]))))
def dk136_0 : Keep := ⟨[(5,1)],[1,5,8,9,10],[5,96,97]⟩
def dc136 : DFunc := ⟨22,2,[.tmp 4],sq [oq 4 (.mov (.const (.slice none 0 0)))] (sq [oq 5 (.mov (.const (.slice none 0 0)))] (.seq (sq [mq 8 0,oq 9 (.len (.tmp 8)),oq 10 (.mov (iq 0))] (.block 0 (some ⟨[],[5],[5,96,97]⟩) (.loop dk136_0 db136_0))) (sq [mq 21 5,mq 4 21] .ret)))⟩
theorem dh136:cProg Go.Proofs.Tryz.prog ⟨[(0,⟨[(5,1)],[1,5,8,9,10],[5,96,97]⟩)],[(0,⟨[],[5],[5,96,97]⟩)],[18]⟩ 136=some dc136:=by kernel_rfl
def dc137 : DFunc := ⟨22,2,[.tmp 3],sq [oq 2 (.box 4 (.tmp 0)),oq 3 (.mov (iq 0))] (.seq (.ops true [oq 5 (.faddr 2 1 false (.tmp 2)),⟨some 6,.load none (.tmp 5),none,[0]⟩,oq 7 (.load none (.tmp 1)),oq 8 (.faddr 1 1 false (.tmp 2)),⟨some 9,.load none (.tmp 8),none,[3]⟩,⟨some 10,.iaddr 1 (.tmp 7) (.tmp 9),none,[2,4,3]⟩,⟨some 11,.load none (.tmp 10),none,[5,2,4,3]⟩,⟨some 12,.minmax false (.tmp 6) [.tmp 11],none,[1,0,6,5,2,4,3]⟩,⟨some 4,.mov (.tmp 12),none,[7,1,0,6,5,2,4,3]⟩]) (sq [oq 13 (.load none (.tmp 1)),oq 14 (.faddr 1 1 false (.tmp 2)),oq 15 (.load none (.tmp 14)),oq 16 (.iaddr 1 (.tmp 13) (.tmp 15)),oq 17 (.load none (.tmp 16)),mq 18 4,oq 19 (.bin .sub (.tmp 17) (.tmp 18)),oq 20 (.iaddr 1 (.tmp 13) (.tmp 15)),nq (.store 1 (.tmp 20) (.tmp 19))] (sq [mq 21 4,mq 3 21] .ret)))⟩
theorem dh137:cProg Go.Proofs.Tryz.prog ⟨[],[],[]⟩ 137=some dc137:=by kernel_rfl
def dc138 : DFunc := ⟨4,0,[.cell 0 (some 4)],sq [oq 0 (.alloc (.agg [.nilfunc,.nilfunc,.nilfunc,.nilfunc]) 4)] (sq [oq 1 (.build [.nilfunc,.nilfunc] [(0,(1,(.func 159))),(1,(1,(.func 160)))]),oq 2 (.build [.nilfunc,.nilfunc] [(0,(1,(.func 161))),(1,(1,(.func 162)))]),oq 3 (.build [.nilfunc,.nilfunc,.nilfunc,.nilfunc] [(0,(2,(.tmp 1))),(2,(2,(.tmp 2)))]),nq (.store 4 (.tmp 0) (.tmp 3))] .ret)⟩
theorem dh138:cProg Go.Proofs.Tryz.prog ⟨[],[],[]⟩ 138=some dc138:=by kernel_rfl
def db139_0 : DC := (sq [oq 12 (.bin .lss (.tmp 11) (.tmp 10))] (.seq (.cond (.tmp 12) .skip (.exit 0)) (.seq (.block 1 none (sq [oq 13 (.iaddr 1 (.tmp 9) (.tmp 11)),oq 14 (.load none (.tmp 13)),mq 6 14] (.seq (sq [mq 15 0,mq 16 4,mq 17 6,oq 18 (.call (.tmp 15) [.tmp 16,.tmp 17]),oq 19 (.un .not (.tmp 18))] (.cond (.tmp 19) .ret .skip)) (pq [mq 20 6,mq 4 20])))) (pq [oq 21 (.bin .add (.tmp 11) (iq 1)),mq 11 21]))))
def dk139_0 : Keep := ⟨[],[0,4,9,10,11],[0]⟩
def dc139 : DFunc := ⟨22,3,[],sq [oq 7 (.faddr 4 1 false (.tmp 1)),oq 8 (.load none (.tmp 7)),mq 4 8] (sq [oq 9 (.load none (.tmp 2)),oq 10 (.len (.tmp 9)),oq 11 (.mov (iq 0))] (.block 0 (some ⟨[],[],[0]⟩) (.loop dk139_0 db139_0)))⟩
theorem dh139:cProg Go.Proofs.Tryz.prog ⟨[(0,⟨[],[0,4,9,10,11],[0]⟩)],[(0,⟨[],[],[0]⟩)],[]⟩ 139=some dc139:=by kernel_rfl
def dc140 : DFunc := ⟨30,2,[.tmp 4,.tmp 5],sq [oq 4 (.mov (.const (.int .u64 0))),oq 5 (.mov (.const (.int .u64 0)))] (.seq (.cond (bq false) (sq [mq 11 0,oq 12 (.conv .u32 (.tmp 11)),mq 13 1,oq 14 (.conv .u32 (.tmp 13)),oq 15 (.call (.func 163) [.tmp 12,.tmp 14]),mq 10 15,oq 16 (.extract (.tmp 10) 0),oq 17 (.extract (.tmp 10) 1),mq 6 16,mq 7 17] (sq [mq 18 6,oq 19 (.conv .u64 (.tmp 18)),mq 20 7,oq 21 (.conv .u64 (.tmp 20)),mq 4 19,mq 5 21] .ret)) .skip) (sq [mq 23 0,mq 24 1,oq 25 (.call (.func 164) [.tmp 23,.tmp 24]),mq 22 25,oq 26 (.extract (.tmp 22) 0),oq 27 (.extract (.tmp 22) 1),mq 8 26,mq 9 27] (sq [mq 28 8,mq 29 9,mq 4 28,mq 5 29] .ret)))⟩
theorem dh140:cProg Go.Proofs.Tryz.prog ⟨[],[],[]⟩ 140=some dc140:=by kernel_rfl
def db141_0 : DC := (sq [oq 9 (.bin .lss (.tmp 8) (.tmp 7))] (.seq (.cond (.tmp 9) .skip (.exit 0)) (.seq (.block 1 none (sq [oq 10 (.iaddr 1 (.tmp 6) (.tmp 8)),oq 11 (.load none (.tmp 10)),mq 5 11] (sq [mq 12 5,mq 13 3,oq 14 (.bin .neq (.tmp 12) (.tmp 13))] (.cond (.tmp 14) (sq [mq 15 5,mq 2 15] .ret) .skip)))) (pq [oq 16 (.bin .add (.tmp 8) (iq 1)),mq 8 16]))))
def dk141_0 : Keep := ⟨[],[3,6,7,8],[]⟩
def dc141 : DFunc := ⟨18,1,[.tmp 2],sq [oq 2 (.mov (iq 0))] (sq [oq 3 (.mov (iq 0))] (.seq (sq [mq 6 0,oq 7 (.len (.tmp 6)),oq 8 (.mov (iq 0))] (.block 0 (some ⟨[],[3],[]⟩) (.loop dk141_0 db141_0))) (sq [mq 17 3,mq 2 17] .ret)))⟩
theorem dh141:cProg Go.Proofs.Tryz.prog ⟨[(0,⟨[],[3,6,7,8],[]⟩)],[(0,⟨[],[3],[]⟩)],[]⟩ 141=some dc141:=by kernel_rfl
def dc142 : DFunc := ⟨20,2,[.tmp 4],sq [oq 4 (.mov (iq 0))] (sq [mq 7 0,oq 8 (.call (.func 165) [.tmp 7]),mq 5 8] (sq [mq 9 1,oq 10 (.call (.func 165) [.tmp 9]),mq 6 10] (.seq (sq [mq 11 5] (.cond (.tmp 11) (.seq (sq [mq 12 6] (.cond (.tmp 12) (sq [oq 4 (.mov (iq 0))] .ret) .skip)) (sq [oq 4 (.mov (iq (-1)))] .ret)) .skip)) (.seq (sq [mq 13 6] (.cond (.tmp 13) (sq [oq 4 (.mov (iq 1))] .ret) .skip)) (.seq (sq [mq 14 0,mq 15 1,oq 16 (.bin .lss (.tmp 14) (.tmp 15))] (.cond (.tmp 16) (sq [oq 4 (.mov (iq (-1)))] .ret) .skip)) (.seq (sq [mq 17 0,mq 18 1,oq 19 (.bin .gtr (.tmp 17) (.tmp 18))] (.cond (.tmp 19) (sq [oq 4 (.mov (iq 1))] .ret) .skip)) (sq [oq 4 (.mov (iq 0))] .ret)))))))⟩
theorem dh142:cProg Go.Proofs.Tryz.prog ⟨[],[],[]⟩ 142=some dc142:=by kernel_rfl
def db143_0 : DC := (sq [oq 12 (.bin .lss (.tmp 11) (.tmp 10))] (.seq (.cond (.tmp 12) .skip (.exit 0)) (.seq (.block 1 none (sq [mq 13 11,oq 14 (.iaddr 1 (.tmp 9) (.tmp 11)),oq 15 (.load none (.tmp 14)),mq 5 13,mq 6 15] (.seq (sq [mq 16 5,mq 17 1,oq 18 (.len (.tmp 17)),oq 19 (.bin .geq (.tmp 16) (.tmp 18))] (.cond (.tmp 19) (sq [oq 4 (.mov (iq 1))] .ret) .skip)) (sq [mq 20 1,mq 21 5,oq 22 (.iaddr 1 (.tmp 20) (.tmp 21)),oq 23 (.load none (.tmp 22)),mq 7 23] (sq [mq 24 6,mq 25 7,oq 26 (.call (.func 142) [.tmp 24,.tmp 25]),mq 8 26] (sq [mq 27 8,oq 28 (.bin .neq (.tmp 27) (iq 0))] (.cond (.tmp 28) (sq [mq 29 8,mq 4 29] .ret) .skip))))))) (pq [oq 30 (.bin .add (.tmp 11) (iq 1)),mq 11 30]))))
def dk143_0 : Keep := ⟨[],[0,1,9,10,11],[]⟩
def dc143 : DFunc := ⟨36,2,[.tmp 4],sq [oq 4 (.mov (iq 0))] (.seq (sq [mq 9 0,oq 10 (.len (.tmp 9)),oq 11 (.mov (iq 0))] (.block 0 (some ⟨[],[0,1],[]⟩) (.loop dk143_0 db143_0))) (.seq (sq [mq 31 0,oq 32 (.len (.tmp 31)),mq 33 1,oq 34 (.len (.tmp 33)),oq 35 (.bin .lss (.tmp 32) (.tmp 34))] (.cond (.tmp 35) (sq [oq 4 (.mov (iq (-1)))] .ret) .skip)) (sq [oq 4 (.mov (iq 0))] .ret)))⟩
theorem dh143:cProg Go.Proofs.Tryz.prog ⟨[(0,⟨[],[0,1,9,10,11],[]⟩)],[(0,⟨[],[0,1],[]⟩)],[]⟩ 143=some dc143:=by kernel_rfl
def dc144 : DFunc := ⟨4,1,[.tmp 2],sq [oq 1 (.box 1 (.tmp 0)),oq 2 (.mov (.const .nilFunc))] (sq [oq 3 (.mkfunc 166 [.tmp 1]),mq 2 3] .ret)⟩
theorem dh144:cProg Go.Proofs.Tryz.prog ⟨[],[],[]⟩ 144=some dc144:=by kernel_rfl
def db151_0 : DC := (sq [oq 11 (.bin .lss (.tmp 10) (.tmp 9))] (.seq (.cond (.tmp 11) .skip (.exit 0)) (.seq (.block 1 none (sq [oq 12 (.iaddr 1 (.tmp 8) (.tmp 10)),oq 13 (.load none (.tmp 12)),mq 7 13] (pq [mq 14 5,mq 15 1,mq 16 7,oq 17 (.call (.tmp 15) [.tmp 16]),oq 18 (.lit true 1 1 (.str []) [(0,(.tmp 17))]),oq 19 (.append false 1 (.tmp 14) (.tmp 18)),mq 5 19]))) (pq [oq 20 (.bin .add (.tmp 10) (iq 1)),mq 10 20]))))
def dk151_0 : Keep := ⟨[(5,1)],[1,5,8,9,10],[5]⟩
def dc151 : DFunc := ⟨22,2,[.tmp 4],sq [oq 4 (.mov (.const (.slice none 0 0)))] (sq [oq 5 (.mov (.const (.slice none 0 0)))] (.seq (sq [mq 8 0,oq 9 (.len (.tmp 8)),oq 10 (.mov (iq 0))] (.block 0 (some ⟨[],[5],[5]⟩) (.loop dk151_0 db151_0))) (sq [mq 21 5,mq 4 21] .ret)))⟩
theorem dh151:cProg Go.Proofs.Tryz.prog ⟨[(0,⟨[(5,1)],[1,5,8,9,10],[5]⟩)],[(0,⟨[],[5],[5]⟩)],[18]⟩ 151=some dc151:=by kernel_rfl
def db157_0 : DC := (sq [oq 16 (.nextS (.tmp 15)),oq 17 (.extract (.tmp 16) 0)] (.seq (.cond (.tmp 17) .skip (.exit 0)) (.block 1 none (sq [oq 18 (.extract (.tmp 16) 2),mq 8 18] (.seq (sq [mq 19 8,oq 20 (.bin .lss (.tmp 19) (.const (.int .i32 48))),mq 21 20,gq 22 (.mov (.tmp 8)) 21 false,gq 23 (.bin .gtr (.tmp 22) (.const (.int .i32 57))) 21 false,oq 24 (.pick (.tmp 21) (bq true) (.tmp 23)),mq 25 24,gq 26 (.mov (.tmp 4)) 25 false,gq 27 (.lenS (.tmp 26)) 25 false,gq 28 (.bin .gtr (.tmp 27) (iq 9)) 25 false,oq 29 (.pick (.tmp 25) (bq true) (.tmp 28))] (.cond (.tmp 29) (sq [oq 2 (.mov (iq 0)),oq 3 (.mov (bq false))] .ret) .skip)) (pq [mq 30 6,oq 31 (.bin .mul (iq 10) (.tmp 30)),mq 32 8,oq 33 (.bin .sub (.tmp 32) (.const (.int .i32 48))),oq 34 (.conv .i64 (.tmp 33)),oq 35 (.bin .add (.tmp 31) (.tmp 34)),mq 6 35]))))))
def dk157_0 : Keep := ⟨[],[4,5,6,15],[15]⟩
def dc157 : DFunc := ⟨55,1,[.tmp 2,.tmp 3],sq [oq 2 (.mov (iq 0)),oq 3 (.mov (bq false))] (sq [mq 10 0,oq 11 (.call (.func 175) [.tmp 10,.const (.string ⟨#[45]⟩)]),mq 9 11,oq 12 (.extract (.tmp 9) 0),oq 13 (.extract (.tmp 9) 1),mq 4 12,mq 5 13] (sq [oq 6 (.mov (iq 0))] (.seq (sq [mq 14 4,oq 15 (.rangeS (.tmp 14))] (.block 0 (some ⟨[],[4,5,6],[15]⟩) (.loop dk157_0 db157_0))) (.seq (sq [mq 36 4,oq 37 (.bin .eql (.tmp 36) (.const (.string ⟨#[]⟩))),mq 38 37,gq 39 (.mov (.tmp 4)) 38 false,gq 40 (.indexS (.tmp 39) (iq 0)) 38 false,gq 41 (.bin .eql (.tmp 40) (.const (.int .u8 48))) 38 false,gq 42 (.mov (.tmp 41)) 38 false,gq 43 (.mov (.tmp 4)) 42 true,gq 44 (.lenS (.tmp 43)) 42 true,gq 45 (.bin .gtr (.tmp 44) (iq 1)) 42 true,gq 46 (.mov (.tmp 45)) 42 true,gq 47 (.mov (.tmp 5)) 46 false,gq 48 (.pick (.tmp 46) (bq true) (.tmp 47)) 42 true,gq 49 (.pick (.tmp 42) (.tmp 48) (bq false)) 38 false,oq 50 (.pick (.tmp 38) (bq true) (.tmp 49))] (.cond (.tmp 50) (sq [oq 2 (.mov (iq 0)),oq 3 (.mov (bq false))] .ret) .skip)) (.seq (sq [mq 51 5] (.cond (.tmp 51) (pq [mq 52 6,oq 53 (.un .neg (.tmp 52)),mq 6 53]) .skip)) (sq [mq 54 6,mq 2 54,oq 3 (.mov (bq true))] .ret))))))⟩
theorem dh157:cProg Go.Proofs.Tryz.prog ⟨[(0,⟨[],[4,5,6,15],[15]⟩)],[(0,⟨[],[4,5,6],[15]⟩)],[]⟩ 157=some dc157:=by kernel_rfl
def dc159 : DFunc := ⟨5,1,[.tmp 2],sq [oq 2 (.mov (bq false))] (sq [mq 3 0,oq 4 (.bin .gtr (.tmp 3) (iq 0)),mq 2 4] .ret)⟩
theorem dh159:cProg Go.Proofs.Tryz.prog ⟨[],[],[]⟩ 159=some dc159:=by kernel_rfl
def dc160 : DFunc := ⟨11,3,[.tmp 6],sq [oq 3 (.box 5 (.tmp 0)),oq 6 (.mov (iq 0))] (sq [mq 7 1,oq 8 (.un .neg (.tmp 7)),mq 9 2,oq 10 (.bin .mul (.tmp 8) (.tmp 9)),mq 6 10] .ret)⟩
theorem dh160:cProg Go.Proofs.Tryz.prog ⟨[],[],[]⟩ 160=some dc160:=by kernel_rfl
def dc161 : DFunc := ⟨5,1,[.tmp 2],sq [oq 2 (.mov (bq false))] (sq [mq 3 0,oq 4 (.bin .lss (.tmp 3) (iq 0)),mq 2 4] .ret)⟩
theorem dh161:cProg Go.Proofs.Tryz.prog ⟨[],[],[]⟩ 161=some dc161:=by kernel_rfl
def dc162 : DFunc := ⟨21,3,[.tmp 6],sq [oq 3 (.box 5 (.tmp 0)),oq 6 (.mov (iq 0))] (sq [mq 7 1,mq 8 2,oq 9 (.un .neg (.tmp 8)),oq 10 (.faddr 2 1 false (.tmp 3)),oq 11 (.load none (.tmp 10)),oq 12 (.bin .sub (iq 1000) (.tmp 11)),oq 13 (.bin .mul (.tmp 9) (.tmp 12)),oq 14 (.bin .quo (.tmp 13) (iq 1000)),oq 15 (.bin .mul (.tmp 7) (.tmp 14)),oq 16 (.faddr 3 1 false (.tmp 3)),oq 17 (.load none (.tmp 16)),mq 18 2,oq 19 (.bin .mul (.tmp 17) (.tmp 18)),oq 20 (.bin .add (.tmp 15) (.tmp 19)),mq 6 20] .ret)⟩
theorem dh162:cProg Go.Proofs.Tryz.prog ⟨[],[],[]⟩ 162=some dc162:=by kernel_rfl
def dc164 : DFunc := ⟨51,2,[.tmp 4,.tmp 5],sq [oq 4 (.mov (.const (.int .u64 0))),oq 5 (.mov (.const (.int .u64 0)))] (sq [mq 14 0,oq 15 (.bin .and (.tmp 14) (.const (.int .u64 4294967295))),mq 6 15] (sq [mq 16 0,oq 17 (.bin .shr (.tmp 16) (.const (.int .u64 32))),mq 7 17] (sq [mq 18 1,oq 19 (.bin .and (.tmp 18) (.const (.int .u64 4294967295))),mq 8 19] (sq [mq 20 1,oq 21 (.bin .shr (.tmp 20) (.const (.int .u64 32))),mq 9 21] (sq [mq 22 6,mq 23 8,oq 24 (.bin .mul (.tmp 22) (.tmp 23)),mq 10 24] (sq [mq 25 7,mq 26 8,oq 27 (.bin .mul (.tmp 25) (.tmp 26)),mq 28 10,oq 29 (.bin .shr (.tmp 28) (.const (.int .u64 32))),oq 30 (.bin .add (.tmp 27) (.tmp 29)),mq 11 30] (sq [mq 31 11,oq 32 (.bin .and (.tmp 31) (.const (.int .u64 4294967295))),mq 12 32] (sq [mq 33 11,oq 34 (.bin .shr (.tmp 33) (.const (.int .u64 32))),mq 13 34] (sq [mq 35 12,mq 36 6,mq 37 9,oq 38 (.bin .mul (.tmp 36) (.tmp 37)),oq 39 (.bin .add (.tmp 35) (.tmp 38)),mq 12 39] (sq [mq 40 7,mq 41 9,oq 42 (.bin .mul (.tmp 40) (.tmp 41)),mq 43 13,oq 44 (.bin .add (.tmp 42) (.tmp 43)),mq 45 12,oq 46 (.bin .shr (.tmp 45) (.const (.int .u64 32))),oq 47 (.bin .add (.tmp 44) (.tmp 46)),mq 4 47] (sq [mq 48 0,mq 49 1,oq 50 (.bin .mul (.tmp 48) (.tmp 49)),mq 5 50] .ret)))))))))))⟩
theorem dh164:cProg Go.Proofs.Tryz.prog ⟨[],[],[]⟩ 164=some dc164:=by kernel_rfl
def dc165 : DFunc := ⟨6,1,[.tmp 2],sq [oq 2 (.mov (bq false))] (sq [mq 3 0,mq 4 0,oq 5 (.bin .neq (.tmp 3) (.tmp 4)),mq 2 5] .ret)⟩
theorem dh165:cProg Go.Proofs.Tryz.prog ⟨[],[],[]⟩ 165=some dc165:=by kernel_rfl
def db166_0 : DC := (.seq (sq [mq 7 3,oq 8 (.bin .geq (.tmp 7) (iq 0))] (.cond (.tmp 8) .skip (.exit 0))) (.seq (.block 1 none (sq [mq 11 0,mq 12 3,oq 13 (.load none (.tmp 1)),mq 14 3,oq 15 (.iaddr 1 (.tmp 13) (.tmp 14)),oq 16 (.load none (.tmp 15)),oq 17 (.call (.tmp 11) [.tmp 12,.tmp 16]),oq 18 (.un .not (.tmp 17))] (.cond (.tmp 18) .ret .skip))) (pq [mq 9 3,oq 10 (.bin .sub (.tmp 9) (iq 1)),mq 3 10])))
def dk166_0 : Keep := ⟨[],[0,1,3],[0]⟩
def dc166 : DFunc := ⟨19,2,[],sq [oq 4 (.load none (.tmp 1)),oq 5 (.len (.tmp 4)),oq 6 (.bin .sub (.tmp 5) (iq 1)),mq 3 6] (.block 0 (some ⟨[],[],[0]⟩) (.loop dk166_0 db166_0))⟩
theorem dh166:cProg Go.Proofs.Tryz.prog ⟨[(0,⟨[],[0,1,3],[0]⟩)],[(0,⟨[],[],[0]⟩)],[]⟩ 166=some dc166:=by kernel_rfl
end Sh

namespace Sh
open Go Go.Proofs
theorem ev_next_yes {ev:Operand→DV} {lk:Nat→Option DObj} {o:Nat} {x:Operand} {q:Nat} {s:List UInt8} {pos:Nat} (hm:ev x=.dict q) (hl:lk q=some (.siter s pos)) (hp:pos < s.length):evalOp ev lk o (.nextS x)=.ok none (.tuple [.bool true,.int .i64 pos,.int .i32 (sdecode s pos).1]) [(q,.siter s (pos+(sdecode s pos).2))]:=by
 have hb:Nat.blt pos s.length=true:=Nat.ble_eq_true_of_le hp
 simp only [evalOp,hm,hl,hb]
theorem ev_next_no {ev:Operand→DV} {lk:Nat→Option DObj} {o:Nat} {x:Operand} {q:Nat} {s:List UInt8} {pos:Nat} (hm:ev x=.dict q) (hl:lk q=some (.siter s pos)) (hp:¬ pos < s.length):evalOp ev lk o (.nextS x)=.ok none (.tuple [.bool false]) []:=by
 have hb:Nat.blt pos s.length=false:=by
  cases h:Nat.blt pos s.length with
  |false=>rfl
  |true=>exact absurd (Nat.le_of_ble_eq_true h) hp
 simp only [evalOp,hm,hl,hb]
theorem c_IsName (s:List UInt8) (hs:s.length < 1073741824):PC 98 [.str s] (.bool (nameB s)):=by
 refine pureCall_ofR dh98 rfl ?_
 conv=>whnf
 refine dwp_loopU (P:=Tryz.prog) (G:=GC) (k:=dk98_0) (b:=db98_0) (α:=Nat) (fun i=>[]) (fun i=>[(7,.siter s i)]) (fun i=>i≤s.length∧∀ j,j < i→nmAt s j=true) (fun i=>s.length - i) 0 ⟨Nat.zero_le _,fun d h=>by omega⟩ ?_
 conv=>whnf
 refine ⟨rfl,rfl,?_⟩
 conv=>whnf
 refine ⟨rfl,?_⟩
 intro i ⟨h1,h2⟩
 conv=>whnf
 by_cases hi:i < s.length
 ·rw [ev_next_yes (s:=s) (pos:=i) rfl rfl hi]
  have hn:=nmAt_iff s i
  have hl:=isLet_iff (s.getD i 0)
  have ho:=isOth_iff (s.getD i 0)
  have hbad:=nameB_bad hi
  by_cases ha:(s.getD i 0).toNat < 128
  ·rw [sdecode_ascii s i ha]
   generalize isLet (s.getD i 0)=L at *
   generalize isOth (s.getD i 0)=O at *
   generalize (s.getD i 0).toNat=c at *
   have hn':nmAt s i=true ↔ ((97≤c∧c≤122)∨(65≤c∧c≤90))∨(i≠0∧(c=95∨(48≤c∧c≤57))):=by rw [hn,hl,ho]
   conv=>whnf
   repeat' (first
    |(refine ⟨fun hg=>?_,fun hg=>?_⟩<;>first|contradiction|(replace hg:=of_decide_eq_true hg;first|(exfalso;omega;done)|(conv=>whnf))|(replace hg:=of_decide_eq_false hg;first|(exfalso;omega;done)|(conv=>whnf))|(skip;conv=>whnf)|(conv=>whnf))
    |(refine Or.inl ?_;conv=>whnf)
    |(refine And.intro ?_ ?_;kernel_rfl;conv=>whnf))
   all_goals
    first
    |contradiction
    |(refine bool_eq (hbad ?_).symm
      cases hnm:nmAt s i with
      |false=>rfl
      |true =>
       exfalso
       have hq:=hn'.1 hnm
       clear hn' hn hl ho hbad h2
       simp only [cond_true,cond_false,Bool.not_true,Bool.not_false,decide_eq_true_eq,Bool.not_eq_true',decide_eq_false_iff_not,Bool.not_eq_false'] at *
       omega)
    |(refine ⟨i+1,rfl,rfl,rfl,⟨hi,fun j hj=>?_⟩,by omega⟩
      by_cases h:j=i
      ·subst h
       refine hn'.2 ?_
       clear hn' hn hl ho hbad h2
       simp only [cond_true,cond_false,Bool.not_true,Bool.not_false,decide_eq_true_eq,Bool.not_eq_true',decide_eq_false_iff_not,Bool.not_eq_false'] at *
       omega
      ·exact h2 j (by omega))
  ·have hr:=sdecode_other s i ha
   have hnm:=hbad (nmAt_hi (by omega))
   rw [hnm]
   clear hn hl ho hbad hnm
   generalize hsd:sdecode s i=rr at *
   obtain ⟨c,w⟩:=rr
   have hr:128≤c:=hr
   conv=>whnf
   repeat' (first
    |(refine ⟨fun hg=>?_,fun hg=>?_⟩<;>first|contradiction|(replace hg:=of_decide_eq_true hg;first|(exfalso;omega;done)|(conv=>whnf))|(replace hg:=of_decide_eq_false hg;first|(exfalso;omega;done)|(conv=>whnf))|(skip;conv=>whnf)|(conv=>whnf))
    |(refine Or.inl ?_;conv=>whnf)
    |(refine And.intro ?_ ?_;kernel_rfl;conv=>whnf))
   all_goals
    first
    |contradiction
    |rfl
    |(exfalso
      clear h2
      simp only [cond_true,cond_false,Bool.not_true,Bool.not_false,decide_eq_true_eq,Bool.not_eq_true',decide_eq_false_iff_not,Bool.not_eq_false'] at *
      omega)
 ·rw [ev_next_no (s:=s) (pos:=i) rfl rfl hi]
  have hi':i=s.length:=by omega
  subst hi'
  conv=>whnf
  have hok:=nameB_ok h2
  rw [hok]
  clear h2 hok
  repeat' (first
   |(refine ⟨fun hg=>?_,fun hg=>?_⟩<;>first|contradiction|(replace hg:=of_decide_eq_true hg;first|(exfalso;omega;done)|(conv=>whnf))|(replace hg:=of_decide_eq_false hg;first|(exfalso;omega;done)|(conv=>whnf))|(skip;conv=>whnf)|(conv=>whnf))
   |(refine Or.inl ?_;conv=>whnf)
   |(refine And.intro ?_ ?_;kernel_rfl;conv=>whnf))
  ·have hg:s≠[]:=hg
   refine bool_eq ?_
   rw [decide_eq_true hg,Bool.true_and]
   show decide ((s.length:Int)≤24)=_
   rw [decide_eq_decide];omega
  ·have hg:¬ s≠[]:=hg
   refine bool_eq ?_
   rw [decide_eq_false hg];rfl
end Sh

namespace Sh
open Go Go.Proofs
def kmD (kn:List (List UInt8)):List (DV×DV):=kn.map fun n=>(DV.str n,DV.bool true)
theorem dfind_km (k:List UInt8):∀ (kn:List (List UInt8)) (i:Nat),dfind (keyEq 2 []) (.str k) (kmD kn) i=if k ∈ kn then some (some (i+kn.idxOf k,.bool true)) else some none
 |[],i=>by rw [if_neg (by simp)];rfl
 |x :: r,i=>by
  show (match keyEq 2 [] (.str k) (.str x) with
   |some true=>some (some (i,DV.bool true))
   |some false=>dfind (keyEq 2 []) (.str k) (kmD r) (i+1)
   |none=>none)=_
  by_cases h:k=x
  ·subst h
   rw [show keyEq 2 [] (.str k) (.str k)=some true from by simp [keyEq],if_pos (by simp)]
   simp
  ·rw [show keyEq 2 [] (.str k) (.str x)=some false from by simp [keyEq,h]]
   show dfind (keyEq 2 []) (.str k) (kmD r) (i+1)=_
   rw [dfind_km k r (i+1)]
   by_cases h2:k ∈ r
   ·rw [if_pos h2,if_pos (by simp [h2])]
    have:(x == k)=false:=by simpa using fun e=>h e.symm
    rw [List.idxOf_cons,this]
    simp only [cond_false]
    congr 3;omega
   ·rw [if_neg h2,if_neg (by simp [h,h2])]
theorem kmD_app (kn:List (List UInt8)) (n:List UInt8):kmD (kn++[n])=kmD kn++[(.str n,.bool true)]:=by unfold kmD;rw [List.map_append];rfl
theorem c_CheckOffers (l:List Of) (n:Int) (hl:l.length < 1073741824) (hn:∀ o ∈ l,o.nm.length < 1073741824):PC 27 [ofsV l,DV.int .i64 (n)] (DV.int .i64 (chkOf l n)):=by
 have e0:((l.map encO).length:Int)=l.length:=by simp
 have hh:headE l.length n=firstE [withE n 1 24,whenE (decide (32 < ((l.map encO).length:Int))) 5]:=by unfold headE;rw [e0]
 refine pureCall_ofR dh27 rfl ?_
 conv=>whnf
 repeat' (first
  |(refine ⟨fun hg=>?_,fun hg=>?_⟩<;>first|contradiction|(conv=>whnf))
  |(refine Or.inl ?_;conv=>whnf)
  |(refine ⟨_,c_checkSlots ..,?_⟩;conv=>whnf)
  |(refine ⟨_,c_when ..,?_⟩;conv=>whnf)
  |(refine ⟨_,c_first [_,_] (by simp),?_⟩;conv=>whnf)
  |(refine And.intro ?_ ?_;kernel_rfl;conv=>whnf))
 ·have hg:=of_decide_eq_true hg
  rw [← hh] at hg ⊢
  exact int_eq (by unfold chkOf;rw [if_pos hg])
 ·have hg:=of_decide_eq_false hg
  rw [← hh] at hg
  have hk:chkOf l n=chkOs n (knO l 0) (l.drop 0):=by unfold chkOf;rw [if_neg hg];rfl
  rw [hk]
  clear hk hg hh
  refine dwp_loopU (P:=Tryz.prog) (G:=GC) (k:=dk27_0) (b:=db27_0) (α:=Nat) (fun i=>[(24,DV.int .i64 (i))]) (fun i=>[(21,.dict (kmD (knO l i)))]) (fun i=>i≤l.length∧chkOs n (knO l 0) (l.drop 0)=chkOs n (knO l i) (l.drop i)) (fun i=>l.length - i) 0 ⟨Nat.zero_le _,rfl⟩ ?_
  conv=>whnf
  refine ⟨rfl,rfl,?_⟩
  conv=>whnf
  refine ⟨rfl,?_⟩
  intro i ⟨h1,h2⟩
  conv=>whnf
  refine ⟨fun hb=>?_,fun hb=>?_⟩
  ·have hi:i < l.length:=by simpa using hb
   clear hb
   have hd:=chkOs_drop n l i hi
   have hks:=knO_succ l i hi
   have hnm:=hn _ (getD_in O0 hi)
   conv=>whnf
   rw [getD_enc _ _ (i) O0 hi]
   refine ⟨idxA hi rfl,?_⟩
   conv=>whnf
   generalize l.getD i O0=t at *
   have kN:=c_IsName t.nm hnm
   have hte:ofE n (knO l i) t=firstE [whenE (!nameB t.nm) 8,whenE (decide (t.nm ∈ knO l i)) 9,whenE (slB n t.sl) 10,withE t.un 1 1000000,prE t.pr]:=rfl
   by_cases hm:t.nm ∈ knO l i
   ·repeat' (first
     |(refine ⟨fun hg=>?_,fun hg=>?_⟩<;>first|contradiction|(conv=>whnf))
     |(refine Or.inl ?_;conv=>whnf)
     |(refine ⟨_,kN ..,?_⟩;conv=>whnf)
     |(refine ⟨_,c_when ..,?_⟩;conv=>whnf)
     |(refine And.intro ?_ ?_;kernel_rfl;conv=>whnf))
    rw [ev_lookup_some (q:=21) (es:=kmD (knO l i)) (i:=0+(knO l i).idxOf t.nm) (v:=.bool true) rfl rfl rfl (by show dfind (keyEq 2 []) (.str t.nm) _ 0=_;rw [dfind_km,if_pos hm])]
    rw [decide_eq_true hm] at hte
    conv=>whnf
    repeat' (first
     |(refine ⟨fun hg=>?_,fun hg=>?_⟩<;>first|contradiction|(conv=>whnf))
     |(refine Or.inl ?_;conv=>whnf)
     |(refine ⟨_,c_when ..,?_⟩;conv=>whnf)
     |(refine ⟨_,c_within ..,?_⟩;conv=>whnf)
     |(refine ⟨_,c_checkPrice ..,?_⟩;conv=>whnf)
     |(refine ⟨_,c_first [_,_,_,_,_] (by simp),?_⟩;conv=>whnf)
     |(refine And.intro ?_ ?_;kernel_rfl;conv=>whnf))
    ·have e3:ofE n (knO l i) t=firstE [whenE (!nameB t.nm) 8,whenE true 9,whenE (bif false then true else decide (n≤t.sl)) 10,withE t.un 1 1000000,prE t.pr]:=by rw [hte];unfold slB;rw [show decide (t.sl < 0)=false from by assumption];rfl
     have hg:=of_decide_eq_true hg
     rw [← e3] at hg
     rw [if_pos hg] at hd
     exact int_eq (by rw [h2,hd,e3])
    ·have e3:ofE n (knO l i) t=firstE [whenE (!nameB t.nm) 8,whenE true 9,whenE (bif false then true else decide (n≤t.sl)) 10,withE t.un 1 1000000,prE t.pr]:=by rw [hte];unfold slB;rw [show decide (t.sl < 0)=false from by assumption];rfl
     have hg:=of_decide_eq_false hg
     rw [← e3] at hg
     exfalso
     have h0:=ofE_ok (Classical.not_not.1 hg)
     exact h0.2 hm
    ·have e3:ofE n (knO l i) t=firstE [whenE (!nameB t.nm) 8,whenE true 9,whenE true 10,withE t.un 1 1000000,prE t.pr]:=by rw [hte];unfold slB;rw [show decide (t.sl < 0)=!false from by assumption];rfl
     have hg:=of_decide_eq_true hg
     rw [← e3] at hg
     rw [if_pos hg] at hd
     exact int_eq (by rw [h2,hd,e3])
    ·have e3:ofE n (knO l i) t=firstE [whenE (!nameB t.nm) 8,whenE true 9,whenE true 10,withE t.un 1 1000000,prE t.pr]:=by rw [hte];unfold slB;rw [show decide (t.sl < 0)=!false from by assumption];rfl
     have hg:=of_decide_eq_false hg
     rw [← e3] at hg
     exfalso
     have h0:=ofE_ok (Classical.not_not.1 hg)
     exact h0.2 hm
   ·repeat' (first
     |(refine ⟨fun hg=>?_,fun hg=>?_⟩<;>first|contradiction|(conv=>whnf))
     |(refine Or.inl ?_;conv=>whnf)
     |(refine ⟨_,kN ..,?_⟩;conv=>whnf)
     |(refine ⟨_,c_when ..,?_⟩;conv=>whnf)
     |(refine And.intro ?_ ?_;kernel_rfl;conv=>whnf))
    rw [ev_lookup_none (q:=21) (es:=kmD (knO l i)) rfl rfl rfl (by show dfind (keyEq 2 []) (.str t.nm) _ 0=_;rw [dfind_km,if_neg hm])]
    rw [decide_eq_false hm] at hte
    conv=>whnf
    repeat' (first
     |(refine ⟨fun hg=>?_,fun hg=>?_⟩<;>first|contradiction|(conv=>whnf))
     |(refine Or.inl ?_;conv=>whnf)
     |(refine ⟨_,c_when ..,?_⟩;conv=>whnf)
     |(refine ⟨_,c_within ..,?_⟩;conv=>whnf)
     |(refine ⟨_,c_checkPrice ..,?_⟩;conv=>whnf)
     |(refine ⟨_,c_first [_,_,_,_,_] (by simp),?_⟩;conv=>whnf)
     |(refine And.intro ?_ ?_;kernel_rfl;conv=>whnf))
    ·have e3:ofE n (knO l i) t=firstE [whenE (!nameB t.nm) 8,whenE false 9,whenE (bif false then true else decide (n≤t.sl)) 10,withE t.un 1 1000000,prE t.pr]:=by rw [hte];unfold slB;rw [show decide (t.sl < 0)=false from by assumption];rfl
     have hg:=of_decide_eq_true hg
     rw [← e3] at hg
     rw [if_pos hg] at hd
     exact int_eq (by rw [h2,hd,e3])
    ·have e3:ofE n (knO l i) t=firstE [whenE (!nameB t.nm) 8,whenE false 9,whenE (bif false then true else decide (n≤t.sl)) 10,withE t.un 1 1000000,prE t.pr]:=by rw [hte];unfold slB;rw [show decide (t.sl < 0)=false from by assumption];rfl
     have hg:=of_decide_eq_false hg
     rw [← e3] at hg
     rw [if_neg hg] at hd
     rw [ev_mapset_none (q:=21) (es:=kmD (knO l i)) (kv:=.str t.nm) (vv:=.bool true) rfl rfl rfl rfl rfl (by rw [dfind_km,if_neg hm])]
     conv=>whnf
     rw [wrap_succ i (by omega)]
     refine ⟨i+1,rfl,rfl,?_,⟨hi,by rw [h2,hd]⟩,by omega⟩
     rw [hks,kmD_app];rfl
    ·have e3:ofE n (knO l i) t=firstE [whenE (!nameB t.nm) 8,whenE false 9,whenE true 10,withE t.un 1 1000000,prE t.pr]:=by rw [hte];unfold slB;rw [show decide (t.sl < 0)=!false from by assumption];rfl
     have hg:=of_decide_eq_true hg
     rw [← e3] at hg
     rw [if_pos hg] at hd
     exact int_eq (by rw [h2,hd,e3])
    ·have e3:ofE n (knO l i) t=firstE [whenE (!nameB t.nm) 8,whenE false 9,whenE true 10,withE t.un 1 1000000,prE t.pr]:=by rw [hte];unfold slB;rw [show decide (t.sl < 0)=!false from by assumption];rfl
     have hg:=of_decide_eq_false hg
     rw [← e3] at hg
     rw [if_neg hg] at hd
     rw [ev_mapset_none (q:=21) (es:=kmD (knO l i)) (kv:=.str t.nm) (vv:=.bool true) rfl rfl rfl rfl rfl (by rw [dfind_km,if_neg hm])]
     conv=>whnf
     rw [wrap_succ i (by omega)]
     refine ⟨i+1,rfl,rfl,?_,⟨hi,by rw [h2,hd]⟩,by omega⟩
     rw [hks,kmD_app];rfl
  ·have hi:i=l.length:=by have:=of_decide_eq_false hb;rw [e0] at this;omega
   clear hb
   conv=>whnf
   exact int_eq (by rw [h2,hi,List.drop_of_length_le (Nat.le_refl _)];rfl)
end Sh

namespace Sh
open Go Go.Proofs
end Sh

namespace Sh
open Go Go.Proofs
def iD (l:List Int):List DV:=l.map (DV.int .i64)
def offL (l:List Of) (i n:Nat):List Int:=rng n fun k=>offS (l.take i) (k:Int)
theorem offL_len (l:List Of) (i n:Nat):(offL l i n).length=n:=rng_len _ _
theorem offL_set (l:List Of) (i n k:Nat) (hi:i < l.length) (hk:(l.getD i O0).sl=k):(offL l i n).set k ((offL l i n).getD k 0+(l.getD i O0).un)=offL l (i+1) n:=by
 unfold offL
 rw [rng_set]
 refine rng_congr fun j hj=>?_
 rw [offS_succ l j i hi]
 by_cases e:j=k
 ·subst e
  rw [if_pos rfl,if_pos hk,rng_getD _ _ hj]
 ·rw [if_neg e,if_neg (by omega),Int.add_zero]
theorem iD_len (l:List Int):(iD l).length=l.length:=List.length_map _
theorem iD_set' (l:List Int) (i:Nat) (x:Int) {v:DV} (h:v=DV.int .i64 (x)):(iD l).set i v=iD (l.set i x):=by rw [h];unfold iD;rw [List.map_set]
theorem iD_get (l:List Int) (i:Nat) (h:i < l.length):(iD l).getD i .undef=DV.int .i64 (l.getD i 0):=by unfold iD;simp [List.getD_eq_getElem?_getD,h]
theorem iD_ok (l:List Int):∀ e ∈ iD l,okE 1 e=true:=fun e he=>by obtain ⟨x,_,rfl⟩:=List.mem_map.1 he;rfl
theorem offL_zero (l:List Of) (n:Nat):List.replicate n (DV.int .i64 (0))=iD (offL l 0 n):=by
 rw [rng_const];unfold iD offL;rw [rng_map];rfl
theorem offS_take {slots:Int} {l:List Of} (h:∀ o ∈ l,OkO slots o) (hl:l.length≤32) (i:Nat) (k:Int):0≤offS (l.take i) k∧offS (l.take i) k≤32000000:=by
 have:=offS_bd (l:=l.take i) (fun o ho=>h o (List.mem_of_mem_take ho)) k
 rw [List.length_take] at this
 omega
theorem c_offered (l:List Of) (n:Nat) (hn:n≤24) (hl:l.length≤32) (ho:∀ o ∈ l,OkO n o):PC 82 [ofsV l,DV.int .i64 (n)] (iL (offL l l.length n)):=by
 have e0:((l.map encO).length:Int)=l.length:=by simp
 refine pureCall_ofR dh82 rfl ?_
 conv=>whnf
 refine ⟨⟨by omega,by omega,by omega,rfl,rfl⟩,?_⟩
 rw [Int.toNat_natCast,offL_zero l n]
 conv=>whnf
 refine dwp_loopU (P:=Tryz.prog) (G:=GC) (k:=dk82_0) (b:=db82_0) (α:=Nat) (fun i=>[(5,.own 9 0 n n),(12,DV.int .i64 (i))]) (fun i=>[(9,.row 1 (iD (offL l i n)) false)]) (fun i=>i≤l.length) (fun i=>l.length - i) 0 (Nat.zero_le _) ?_
 conv=>whnf
 refine ⟨rfl,rfl,?_⟩
 conv=>whnf
 refine ⟨rfl,?_⟩
 intro i h1
 conv=>whnf
 refine ⟨fun hb=>?_,fun hb=>?_⟩
 ·have hi:i < l.length:=by simpa using hb
  clear hb
  have hok:=ho _ (getD_in O0 hi)
  obtain ⟨_,s0,s1,u0,u1,_⟩:=hok
  obtain ⟨k,hk⟩:=Int.eq_ofNat_of_zero_le s0
  have hkn:k < n:=by omega
  have hb:=offS_take ho hl i (k:Int)
  have hg:(offL l i n).getD k 0=offS (l.take i) k:=rng_getD _ _ hkn
  have hset:=offL_set l i n k hi hk
  conv=>whnf
  rw [getD_enc _ _ (i) O0 hi]
  refine ⟨idxA hi rfl,?_⟩
  conv=>whnf
  have hlen:n=(iD (offL l i n)).length:=by rw [iD_len,offL_len]
  rw [hk,Int.toNat_natCast,Nat.zero_add k]
  refine ⟨⟨hlen,by omega,by omega⟩,?_⟩
  conv=>whnf
  refine ⟨⟨hlen,by decide⟩,?_⟩
  rw [iD_get _ _ (by rw [offL_len];omega)]
  rw [hg]
  conv=>whnf
  rw [Int.toNat_natCast,Nat.zero_add k]
  refine ⟨⟨hlen,by omega,by omega⟩,?_⟩
  conv=>whnf
  refine ⟨⟨hlen,by decide,rfl⟩,?_⟩
  refine ⟨by kernel_rfl,?_⟩
  conv=>whnf
  rw [wrap_succ i (by omega)]
  refine ⟨i+1,rfl,rfl,?_,hi,by omega⟩
  have hrow:(iD (offL l i n)).set k (DV.int .i64 (IntKind.i64.wrap (offS (l.take i) k+(l.getD i O0).un)))=iD (offL l (i+1) n):=by
   rw [wrap_in (by omega) (by omega),← hg,iD_set' (offL l i n) k _ rfl,hset]
  rw [← hrow];rfl
 ·have hi:i=l.length:=by have:=of_decide_eq_false hb;simp at this;omega
  clear hb
  conv=>whnf
  have hlen:n=(iD (offL l l.length n)).length:=by rw [iD_len,offL_len]
  subst hi
  refine ⟨hlen,?_⟩
  have hw:window (iD (offL l l.length n)) 0 n=iD (offL l l.length n):=by
   have:=window_full (iD (offL l l.length n))
   rwa [← hlen] at this
  rw [hw];rfl
end Sh

namespace Sh
open Go Go.Proofs
def covB (g:Iv→Int) (l:List Iv) (os:List Of) (i:Nat):Bool:=(List.range i).all fun k=>decide (offS os k≤g (l.getD k I0))
theorem covB_succ (g:Iv→Int) (l:List Iv) (os:List Of) (i:Nat):covB g l os (i+1)=(covB g l os i && decide (offS os i≤g (l.getD i I0))):=by
 unfold covB;rw [List.range_succ,List.all_append];simp
def covE (l:List Iv) (os:List Of):Int:=firstE [chkFc l,chkOf os (max 1 l.length)]
def covS (l:List Iv) (os:List Of):(Bool×Bool)×Int:=if covE l os≠0 then ((false,false),covE l os) else ((covB Iv.lo l os l.length,covB Iv.hi l os l.length),0)
theorem covE_ok {l:List Iv} {os:List Of} (h:covE l os=0):0 < l.length∧l.length≤24∧(∀ x ∈ l,0≤x.lo∧x.lo≤x.hi∧x.hi≤1000000)∧os.length≤32∧∀ o ∈ os,OkO l.length o:=by
 unfold covE at h
 obtain ⟨h1,h⟩:=firstE_cons h
 obtain ⟨h2,h⟩:=firstE_cons h
 have a:=chkFc_ok h1
 have b:=chkOf_ok h2
 rw [show max 1 (l.length:Int)=l.length by omega] at b
 exact ⟨a.1,a.2.1,a.2.2,b.2.2.1,b.2.2.2.1⟩
end Sh

namespace Sh
open Go Go.Proofs
theorem c_Covered (l:List Iv) (os:List Of) (hl:l.length < 1073741824) (ho:os.length < 1073741824) (hn:∀ o ∈ os,o.nm.length < 1073741824):PC 14 [ivV l,ofsV os] (.tuple [.bool (covS l os).1.1,.bool (covS l os).1.2,DV.int .i64 ((covS l os).2)]):=by
 have e0:((l.map encV).length:Int)=l.length:=by simp
 refine pureCall_ofR dh14 rfl ?_
 conv=>whnf
 have hmx:minmaxI true 1 (l.length:Int)=max 1 (l.length:Int):=by
  show (if (l.length:Int) > 1 then (l.length:Int) else 1)=_
  split<;>omega
 have k1:PC 27 [ofsV os,DV.int .i64 (minmaxI true 1 ((l.map encV).length:Int))] (DV.int .i64 (chkOf os (max 1 l.length))):=by rw [e0,hmx];exact c_CheckOffers os _ ho hn
 repeat' (first
  |(refine ⟨fun hg=>?_,fun hg=>?_⟩<;>first|contradiction|(conv=>whnf))
  |(refine Or.inl ?_;conv=>whnf)
  |(refine ⟨_,c_CheckForecasts l hl,?_⟩;conv=>whnf)
  |(refine ⟨_,k1,?_⟩;conv=>whnf)
  |(refine ⟨_,c_first [_,_] (by simp),?_⟩;conv=>whnf)
  |(refine And.intro ?_ ?_;kernel_rfl;conv=>whnf))
 ·have hg:covE l os≠0:=of_decide_eq_true hg
  show DV.tuple [.bool false,.bool false,DV.int .i64 (covE l os)]=_
  rw [covS,if_pos hg]
 ·have hg:=of_decide_eq_false hg
  have hz:covE l os=0:=Classical.not_not.1 hg
  obtain ⟨hl0,hl1,hl2,ho1,ho2⟩:=covE_ok hz
  have hv:covS l os=((covB Iv.lo l os l.length,covB Iv.hi l os l.length),0):=by rw [covS,if_neg (by omega)]
  clear hg
  rw [e0]
  repeat' (first
   |(refine ⟨fun hg=>?_,fun hg=>?_⟩<;>first|contradiction|(conv=>whnf))
   |(refine Or.inl ?_;conv=>whnf)
   |(refine ⟨_,c_offered os l.length hl1 ho1 ho2,?_⟩;conv=>whnf)
   |(refine And.intro ?_ ?_;kernel_rfl;conv=>whnf))
  have hL:=offL_len os os.length l.length
  have hof:∀ i,i < l.length→(offL os os.length l.length).getD i 0=offS os i:=fun i hi=>by unfold offL;rw [rng_getD _ _ hi,List.take_length]
  refine dwp_loopU (P:=Tryz.prog) (G:=GC) (k:=dk14_0) (b:=db14_0) (α:=Nat) (fun i=>[(8,.bool (covB Iv.lo l os i)),(9,.bool (covB Iv.hi l os i)),(29,DV.int .i64 (i))]) (fun _=>[]) (fun i=>i≤l.length) (fun i=>l.length - i) 0 (Nat.zero_le _) ?_
  conv=>whnf
  refine ⟨rfl,rfl,?_⟩
  conv=>whnf
  refine ⟨rfl,?_⟩
  intro i h1
  conv=>whnf
  refine ⟨fun hb=>?_,fun hb=>?_⟩
  ·have hi:i < l.length:=by have:=of_decide_eq_true hb;simp [hL] at this;omega
   clear hb
   have hi2:i < (offL os os.length l.length).length:=by rw [hL];exact hi
   have s1:=covB_succ Iv.lo l os i
   have s2:=covB_succ Iv.hi l os i
   conv=>whnf
   rw [getD_enc _ _ (i) 0 hi2]
   refine ⟨idxA hi2 rfl,?_⟩
   conv=>whnf
   rw [hof i hi]
   repeat' (first
    |(refine ⟨fun hg=>?_,fun hg=>?_⟩<;>first|contradiction|(conv=>whnf))
    |(refine Or.inl ?_;conv=>whnf)
    |(rw [getD_enc _ _ i I0 hi];refine ⟨idxA hi rfl,?_⟩;conv=>whnf)
    |(refine And.intro ?_ ?_;kernel_rfl;conv=>whnf))
   all_goals rw [wrap_succ i (by omega)]
   all_goals refine ⟨i+1,rfl,?_,rfl,hi,by omega⟩
   all_goals (rw [s1,s2,‹covB Iv.lo l os i=_›,‹covB Iv.hi l os i=_›];rfl)
  ·have hi:i=l.length:=by have:=of_decide_eq_false hb;simp [hL] at this;omega
   clear hb
   conv=>whnf
   rw [hi,hv];rfl
end Sh

namespace Sh
open Go Go.Proofs
def bothE (d:List Int) (os:List Of):Int:=firstE [chkUn d,chkOf os (max 1 (min 24 (d.length:Int)))]
theorem c_checkBoth (d:List Int) (os:List Of) (hl:d.length < 1073741824) (ho:os.length < 1073741824) (hn:∀ o ∈ os,o.nm.length < 1073741824):PC 101 [iL d,ofsV os] (DV.int .i64 (bothE d os)):=by
 have e0:((d.map (DV.int .i64)).length:Int)=d.length:=by simp
 have hmx:minmaxI true 1 (minmaxI false 24 (d.length:Int))=max 1 (min 24 (d.length:Int)):=by
  have h1:∀ a b,minmaxI true a b=if b > a then b else a:=fun _ _=>rfl
  have h2:∀ a b,minmaxI false a b=if b < a then b else a:=fun _ _=>rfl
  rw [h1,h2]
  split<;>split<;>omega
 have k1:PC 27 [ofsV os,DV.int .i64 (minmaxI true 1 (minmaxI false 24 ((d.map (DV.int .i64)).length:Int)))] (DV.int .i64 (chkOf os (max 1 (min 24 (d.length:Int))))):=by rw [e0,hmx];exact c_CheckOffers os _ ho hn
 refine pureCall_ofR dh101 rfl ?_
 conv=>whnf
 repeat' (first
  |(refine ⟨fun hg=>?_,fun hg=>?_⟩<;>first|contradiction|(conv=>whnf))
  |(refine Or.inl ?_;conv=>whnf)
  |(refine ⟨_,c_checkDelivery d hl,?_⟩;conv=>whnf)
  |(refine ⟨_,k1,?_⟩;conv=>whnf)
  |(refine ⟨_,c_first [_,_] (by simp),?_⟩;conv=>whnf)
  |(refine And.intro ?_ ?_;kernel_rfl;conv=>whnf))
 all_goals first
  |rfl
  |trace_state
def cutE (d li:List Int):Int:=firstE [chkUn d,whenE (decide ((li.length:Int)≠d.length)) 2,firstE (li.map unE)]
def cutG (d li:List Int) (k:Nat):Int:=if li.getD k 0 < d.getD k 0 then li.getD k 0 else d.getD k 0
def cutL (d li:List Int) (i:Nat):List Int:=rng d.length fun k=>if k < i then cutG d li k else d.getD k 0
def cutS (d li:List Int):List Int×Int:=if cutE d li≠0 then ([],cutE d li) else (cutL d li d.length,0)
theorem cutL_len (d li:List Int) (i:Nat):(cutL d li i).length=d.length:=rng_len _ _
theorem cutL_get {d li:List Int} {i:Nat} (h:i < d.length):(cutL d li i).getD i 0=d.getD i 0:=by unfold cutL;rw [rng_getD _ _ h,if_neg (by omega)]
theorem cutL_set (d li:List Int) (i:Nat):(cutL d li i).set i (cutG d li i)=cutL d li (i+1):=by
 unfold cutL
 rw [rng_set]
 refine rng_congr (fun k hk=>?_)
 (try dsimp only)
 by_cases e:k=i
 ·subst e;simp
 ·rw [if_neg e]
  by_cases e2:k < i
  ·rw [if_pos e2,if_pos (by omega)]
  ·rw [if_neg e2,if_neg (by omega)]
theorem cutL_zero (d li:List Int):cutL d li 0=d:=by
 unfold cutL
 apply List.ext_getElem
 ·simp [rng]
 ·intro i h1 h2
  simp [rng,List.getD_eq_getElem?_getD,h2]
theorem chkUn_len {d:List Int} (h:chkUn d=0):0 < d.length∧d.length≤24∧∀ x ∈ d,0≤x∧x≤1000000:=by
 unfold chkUn at h
 obtain ⟨h1,h⟩:=firstE_cons h
 obtain ⟨h2,h⟩:=firstE_cons h
 unfold countE at h1
 obtain ⟨h3,h1⟩:=firstE_cons h1
 obtain ⟨h4,h1⟩:=firstE_cons h1
 have h3:=of_decide_eq_false (whenE_zero h3 (by decide))
 have h4:=of_decide_eq_false (whenE_zero h4 (by decide))
 exact ⟨by omega,by omega,fun x hx=>withE_zero (firstE_mem h2 _ (List.mem_map_of_mem hx))⟩
theorem c_Curtailed (d li:List Int) (hl:d.length < 1073741824) (hl2:li.length < 1073741824):PC 17 [iL d,iL li] (.tuple [iL (cutS d li).1,DV.int .i64 ((cutS d li).2)]):=by
 have e0:((d.map (DV.int .i64)).length:Int)=d.length:=by simp
 have e1:((li.map (DV.int .i64)).length:Int)=li.length:=by simp
 have eE:cutE d li=firstE [chkUn d,whenE (decide (((li.map (DV.int .i64)).length:Int)≠(d.map (DV.int .i64)).length)) 2,firstE (li.map unE)]:=by rw [e0,e1];rfl
 refine pureCall_ofR dh17 rfl ?_
 conv=>whnf
 repeat' (first
  |(refine ⟨fun hg=>?_,fun hg=>?_⟩<;>first|contradiction|(conv=>whnf))
  |(refine Or.inl ?_;conv=>whnf)
  |(refine ⟨_,c_checkDelivery d hl,?_⟩;conv=>whnf)
  |(refine ⟨_,c_when ..,?_⟩;conv=>whnf)
  |(refine ⟨_,c_mappedI li _ unE hl2 (fun n _=>c_checkUnits n),?_⟩;conv=>whnf)
  |(refine ⟨_,c_first (li.map unE) (by simp;omega),?_⟩;conv=>whnf)
  |(refine ⟨_,c_first [_,_,_] (by simp),?_⟩;conv=>whnf)
  |(refine And.intro ?_ ?_;kernel_rfl;conv=>whnf))
 ·have hg:cutE d li≠0:=by rw [eE];exact of_decide_eq_true hg
  show DV.tuple [.list [],DV.int .i64 (_)]=_
  rw [cutS,if_pos hg,eE];rfl
 ·have hz:cutE d li=0:=by rw [eE];exact Classical.not_not.1 (of_decide_eq_false hg)
  clear hg
  have hv:cutS d li=(cutL d li d.length,0):=by rw [cutS,if_neg (by omega)]
  obtain ⟨z1,hz⟩:=firstE_cons hz
  obtain ⟨z2,hz⟩:=firstE_cons hz
  have hd:=chkUn_len z1
  have hll:li.length=d.length:=by have:=of_decide_eq_false (whenE_zero z2 (by decide));omega
  rw [e0]
  refine ⟨⟨by omega,by omega,by omega,rfl,rfl⟩,?_⟩
  rw [Int.toNat_natCast]
  conv=>whnf
  refine ⟨⟨by simp,fun e he=>by obtain ⟨c,_,rfl⟩:=List.mem_map.1 he;rfl⟩,?_⟩
  conv=>whnf
  have hrow:List.take 0 (List.replicate d.length (DV.int .i64 (0)))++List.take d.length (List.map (DV.int .i64) d)++List.drop (0+min (List.map (DV.int .i64) d).length d.length) (List.replicate d.length (DV.int .i64 (0)))=iD (cutL d li 0):=by
   rw [cutL_zero,List.take_zero,List.nil_append,List.take_of_length_le (by simp),List.drop_of_length_le (by simp),List.append_nil];rfl
  rw [hrow]
  have hlen:∀ i,d.length=(iD (cutL d li i)).length:=fun i=>by rw [iD_len,cutL_len]
  refine dwp_loopU (P:=Tryz.prog) (G:=GC) (k:=dk17_0) (b:=db17_0) (α:=Nat) (fun i=>[(7,.own 28 0 d.length d.length),(34,DV.int .i64 (i))]) (fun i=>[(28,.row 1 (iD (cutL d li i)) false)]) (fun i=>i≤li.length) (fun i=>li.length - i) 0 (Nat.zero_le _) ?_
  conv=>whnf
  refine ⟨rfl,rfl,?_⟩
  conv=>whnf
  refine ⟨rfl,?_⟩
  intro i h1
  conv=>whnf
  refine ⟨fun hb=>?_,fun hb=>?_⟩
  ·have hi:i < li.length:=by simpa using hb
   clear hb
   have hg:=cutL_get (d:=d) (li:=li) (i:=i) (by omega)
   conv=>whnf
   rw [getD_enc _ _ (i) 0 hi]
   refine ⟨idxA hi rfl,?_⟩
   conv=>whnf
   refine ⟨⟨hlen i,by omega,by omega⟩,?_⟩
   conv=>whnf
   refine ⟨⟨hlen i,by decide⟩,?_⟩
   rw [Int.toNat_natCast,Nat.zero_add i,iD_get _ _ (by rw [cutL_len];omega),hg]
   conv=>whnf
   refine ⟨⟨hlen i,by omega,by omega⟩,?_⟩
   conv=>whnf
   rw [Int.toNat_natCast,Nat.zero_add i]
   refine ⟨⟨hlen i,by decide,rfl⟩,?_⟩
   conv=>whnf
   (try (refine ⟨by kernel_rfl,?_⟩;conv=>whnf))
   rw [wrap_succ i (by omega)]
   refine ⟨i+1,rfl,rfl,?_,hi,by omega⟩
   have hr:(iD (cutL d li i)).set i (DV.int .i64 (minmaxI false (d.getD i 0) (li.getD i 0)))=iD (cutL d li (i+1)):=by
    show (iD (cutL d li i)).set i (DV.int .i64 (cutG d li i))=_
    rw [iD_set' _ i (cutG d li i) rfl,cutL_set]
   rw [← hr];rfl
  ·have hi:i=d.length:=by have:=of_decide_eq_false hb;simp at this;omega
   clear hb
   conv=>whnf
   refine ⟨hlen i,?_⟩
   have hw:window (iD (cutL d li i)) 0 d.length=iD (cutL d li i):=by
    have:=window_full (iD (cutL d li i))
    rwa [← hlen i] at this
   rw [hw,hv,hi];rfl
end Sh

namespace Sh
open Go Go.Proofs
def dcOwnI:DFunc:=⟨8,1,[(.tmp 2)],(.seq (.ops false [⟨(some 2),(.mov (.const (.slice none 0 0))),none,[]⟩]) (.seq (.seq (.ops false [⟨(some 3),(.mov (.tmp 0)),none,[]⟩,⟨(some 4),(.eqNil false (.tmp 3)),none,[]⟩]) (.cond (.tmp 4) (.seq (.ops false [⟨(some 2),(.mov (.const (.slice none 0 0))),none,[]⟩]) .ret) .skip)) (.seq (.ops false [⟨(some 5),(.lit true 1 0 (.int .i64 0) []),none,[]⟩,⟨(some 6),(.mov (.tmp 0)),none,[]⟩,⟨(some 7),(.append false 1 (.tmp 5) (.tmp 6)),none,[]⟩,⟨(some 2),(.mov (.tmp 7)),none,[]⟩]) .ret)))⟩
theorem dhOwnI:cProg Go.Proofs.Tryz.prog ⟨[],[],[5]⟩ 103=some dcOwnI:=by kernel_rfl
theorem h_CloneI (l:List Int) (hl:l.length < 1073741824) (h0:l≠[]):HCall Tryz.prog GC 103 [iL l] [] (.own 7 0 (iD l).length (iD l).length) [(7,.row 1 (iD l) false)]:=by
 obtain ⟨a,r,rfl⟩:=List.exists_cons_of_ne_nil h0
 refine hCall_ofR dhOwnI rfl (by kernel_rfl) (by kernel_rfl) ?_
 conv=>whnf
 refine ⟨fun hg=>absurd hg (by decide),fun _=>?_⟩
 conv=>whnf
 refine ⟨⟨by simp only [List.length_map,List.reverse_nil,List.length_nil];omega,fun e he=>iD_ok (a :: r) e he,fun e he=>absurd he List.not_mem_nil,.inl rfl⟩,?_⟩
 conv=>whnf
 exact ⟨rfl,rfl⟩
end Sh

namespace Sh
open Go
def leftL (d:List Int) (os:List Of) (k:Nat):List Int:=rng d.length fun s=>if offS (os.take k) s < d.getD s 0 then d.getD s 0 - offS (os.take k) s else 0
def aloN (d:List Int) (os:List Of) (k:Nat):Int :=
 if (leftL d os k).getD (os.getD k O0).sl.toNat 0 < (os.getD k O0).un then (leftL d os k).getD (os.getD k O0).sl.toNat 0 else (os.getD k O0).un
theorem leftL_len (d:List Int) (os:List Of) (k:Nat):(leftL d os k).length=d.length:=rng_len _ _
theorem leftL_get {d:List Int} {os:List Of} {k s:Nat} (h:s < d.length):(leftL d os k).getD s 0=if offS (os.take k) s < d.getD s 0 then d.getD s 0 - offS (os.take k) s else 0:=rng_getD _ _ h
theorem leftL_zero {d:List Int} {os:List Of} (h:∀ x ∈ d,0≤x):leftL d os 0=d:=by
 unfold leftL
 apply List.ext_getElem
 ·simp [rng]
 ·intro i h1 h2
  have:=h _ (List.getElem_mem h2)
  simp [rng,List.getD_eq_getElem?_getD,h2,offS,sumI]
  omega
theorem leftL_set {d:List Int} {os:List Of} {k s:Nat} (hk:k < os.length) (hs:(os.getD k O0).sl=s) (h:s < d.length) (hu:0≤(os.getD k O0).un) (h0:0≤offS (os.take k) s) (hd:0≤d.getD s 0) :
  (leftL d os k).set s ((leftL d os k).getD s 0 - aloN d os k)=leftL d os (k+1):=by
 have ha:aloN d os k=if (leftL d os k).getD s 0 < (os.getD k O0).un then (leftL d os k).getD s 0 else (os.getD k O0).un:=by unfold aloN;rw [hs,Int.toNat_natCast]
 have hg:=leftL_get (os:=os) (k:=k) h
 rw [ha,hg]
 unfold leftL
 rw [rng_set]
 refine rng_congr fun j hj=>?_
 (try dsimp only)
 have hsu:=offS_succ os (j:Int) k hk
 by_cases e:j=s
 ·subst e
  rw [if_pos hs] at hsu
  rw [if_pos rfl,hsu]
  split<;>split<;>split<;>omega
 ·rw [if_neg (by omega:¬ (os.getD k O0).sl=(j:Int)),Int.add_zero] at hsu
  rw [if_neg e,hsu]
end Sh

namespace Sh
open Go Go.Proofs
def okDO (d:List Int) (os:List Of):Prop:=0 < d.length∧d.length≤24∧(∀ x ∈ d,0≤x∧x≤1000000)∧os.length≤32∧∀ o ∈ os,OkO d.length o
theorem leftL_bd {d:List Int} {os:List Of} (h:okDO d os) {k s:Nat} (hs:s < d.length):0≤(leftL d os k).getD s 0∧(leftL d os k).getD s 0≤1000000:=by
 have hd:=h.2.2.1 _ (getD_in 0 hs)
 have hb:=offS_take h.2.2.2.2 h.2.2.2.1 k (s:Int)
 rw [leftL_get hs]
 split<;>omega
theorem h_one {d:List Int} {os:List Of} (h:okDO d os) {k:Nat} (hk:k < os.length):HCall Tryz.prog GC 137 [encO (os.getD k O0),.bptr 96 0] [(96,.box 1 (.own 97 0 d.length d.length)),(97,.row 1 (iD (leftL d os k)) false)] (DV.int .i64 (aloN d os k)) [(96,.box 1 (.own 97 0 d.length d.length)),(97,.row 1 (iD (leftL d os (k+1))) false)]:=by
 have hok:=h.2.2.2.2 _ (getD_in O0 hk)
 obtain ⟨_,s0,s1,u0,u1,_⟩:=hok
 obtain ⟨s,hs⟩:=Int.eq_ofNat_of_zero_le s0
 have hsd:s < d.length:=by omega
 have hlen:∀ k,d.length=(iD (leftL d os k)).length:=fun k=>by rw [iD_len,leftL_len]
 have hlb:=leftL_bd h (k:=k) hsd
 have ha:aloN d os k=if (leftL d os k).getD s 0 < (os.getD k O0).un then (leftL d os k).getD s 0 else (os.getD k O0).un:=by unfold aloN;rw [hs];rfl
 have hset:=leftL_set (d:=d) hk hs hsd (by omega) (offS_take h.2.2.2.2 h.2.2.2.1 k (s:Int)).1 (h.2.2.1 _ (getD_in 0 hsd)).1
 refine hCall_ofR dh137 rfl (by kernel_rfl) (by kernel_rfl) ?_
 conv=>whnf
 have hgl:(iD (leftL d os k)).getD s .undef=DV.int .i64 ((leftL d os k).getD s 0):=iD_get _ _ (by rw [leftL_len];exact hsd)
 have hmm:minmaxI false (os.getD k O0).un ((leftL d os k).getD s 0)=aloN d os k:=by
  rw [ha];show (if _ < _ then _ else _)=_;rfl
 rw [hs,Int.toNat_natCast,Nat.zero_add s]
 refine ⟨⟨hlen k,by omega,by omega⟩,?_⟩
 conv=>whnf
 refine ⟨⟨hlen k,by decide⟩,?_⟩
 rw [hgl]
 conv=>whnf
 (try (refine ⟨by kernel_rfl,?_⟩;conv=>whnf))
 rw [hmm,Int.toNat_natCast,Nat.zero_add s]
 refine ⟨⟨hlen k,by omega,by omega⟩,?_⟩
 conv=>whnf
 refine ⟨⟨hlen k,by decide⟩,?_⟩
 rw [hgl]
 conv=>whnf
 have hab:aloN d os k≤(leftL d os k).getD s 0∧0≤aloN d os k:=by rw [ha];split<;>omega
 rw [wrap_in (by omega) (by omega)]
 (try rw [Int.toNat_natCast,Nat.zero_add s])
 refine ⟨⟨hlen k,by omega,by omega⟩,?_⟩
 conv=>whnf
 (try rw [Int.toNat_natCast,Nat.zero_add s])
 refine ⟨⟨hlen k,by decide,rfl⟩,?_⟩
 conv=>whnf
 have hr:(iD (leftL d os k)).set s (DV.int .i64 ((leftL d os k).getD s 0 - aloN d os k))=iD (leftL d os (k+1)):=by
  rw [iD_set' _ s _ rfl,hset]
 rw [← hr]
 exact ⟨rfl,rfl⟩
end Sh

namespace Sh
open Go Go.Proofs
def aloL (d:List Int) (os:List Of) (k:Nat):List Int:=rng k fun i=>aloN d os i
theorem aloL_len (d:List Int) (os:List Of) (k:Nat):(aloL d os k).length=k:=rng_len _ _
theorem aloL_succ (d:List Int) (os:List Of) (k:Nat):iD (aloL d os (k+1))=iD (aloL d os k)++[DV.int .i64 (aloN d os k)]:=by unfold aloL iD;rw [rng_succ,List.map_append];rfl
theorem h_mapped {d:List Int} {os:List Of} (h:okDO d os):HCall Tryz.prog GC 136 [ofsV os,.func 137 [.bptr 96 0]] [(96,.box 1 (.own 97 0 d.length d.length)),(97,.row 1 (iD (leftL d os 0)) false)] (.own 5 0 (iD (aloL d os os.length)).length (iD (aloL d os os.length)).length) [(5,.row 1 (iD (aloL d os os.length)) false),(96,.box 1 (.own 97 0 d.length d.length)),(97,.row 1 (iD (leftL d os os.length)) false)]:=by
 have e0:((os.map encO).length:Int)=os.length:=by simp
 have hol:=h.2.2.2.1
 refine hCall_ofR dh136 rfl (by kernel_rfl) (by kernel_rfl) ?_
 conv=>whnf
 refine dwp_loopR (P:=Tryz.prog) (G:=GC) (k:=dk136_0) (b:=db136_0) (α:=Nat) (fun i=>[(1,.func 137 [.bptr 96 0]),(5,.own 5 0 (iD (aloL d os i)).length (iD (aloL d os i)).length),(8,ofsV os),(9,.int .i64 (os.map encO).length),(10,DV.int .i64 (i))]) (fun i=>[(5,.row 1 (iD (aloL d os i)) false),(96,.box 1 (.own 97 0 d.length d.length)),(97,.row 1 (iD (leftL d os i)) false)]) (fun i=>i≤os.length) (fun i=>os.length - i) 0 ⟨rfl,rfl,rfl⟩ (Nat.zero_le _) ?_
 intro i h1
 conv=>whnf
 refine ⟨fun hb=>?_,fun hb=>?_⟩
 ·have hi:i < os.length:=by have:=of_decide_eq_true hb;rw [e0] at this;omega
  clear hb
  have hs:=aloL_succ d os i
  conv=>whnf
  rw [getD_enc _ _ (i) O0 hi]
  refine ⟨idxA hi rfl,?_⟩
  conv=>whnf
  refine .inr ⟨[(96,96),(97,97)],_,_,_,_,h_one h hi,⟨rfl,by kernel_rfl,?_,?_⟩,?_⟩
  ·exact ⟨rfl,rfl,trivial⟩
  ·exact ⟨.inl rfl,.inl rfl,trivial⟩
  conv=>whnf
  refine ⟨⟨rfl,rfl,rfl,by rw [iD_len,aloL_len];simp;omega,fun e he=>by simp at he;subst he;rfl⟩,?_⟩
  conv=>whnf
  rw [wrap_succ i (by omega)]
  refine ⟨i+1,rfl,?_,?_,hi,by omega⟩
  ·rw [hs];rfl
  ·rw [hs];rfl
 ·have hi:i=os.length:=by have:=of_decide_eq_false hb;rw [e0] at this;omega
  clear hb
  subst hi
  conv=>whnf
  exact ⟨rfl,rfl⟩
theorem c_allotted {d:List Int} {os:List Of} (h:okDO d os):PC 102 [iL d,ofsV os] (.tuple [iL (aloL d os os.length),iL (leftL d os os.length)]):=by
 have hz:=leftL_zero (d:=d) (os:=os) (fun x hx=>(h.2.2.1 x hx).1)
 have hc:=h_CloneI d (by have:=h.2.1;omega) (by intro e;have:=h.1;rw [e] at this;simp at this)
 have hm:=h_mapped h
 rw [hz] at hm
 rw [iD_len] at hc
 refine pureCall_ofR dh102 rfl ?_
 conv=>whnf
 refine .inr ⟨[(7,9)],_,_,_,_,hc,⟨rfl,by kernel_rfl,?_,?_⟩,?_⟩
 ·exact trivial
 ·exact ⟨.inr rfl,trivial⟩
 conv=>whnf
 refine .inr ⟨[(96,6),(97,9),(5,12)],_,_,_,_,hm,⟨rfl,by kernel_rfl,?_,?_⟩,?_⟩
 ·exact ⟨rfl,rfl,trivial⟩
 ·exact ⟨.inr rfl,.inl rfl,.inl rfl,trivial⟩
 conv=>whnf
 (try (refine ⟨by kernel_rfl,?_⟩;conv=>whnf))
 have hlen:d.length=(iD (leftL d os os.length)).length:=by rw [iD_len,leftL_len]
 refine ⟨⟨rfl,hlen⟩,?_⟩
 show DV.tuple [DV.list (window (iD (aloL d os os.length)) 0 (iD (aloL d os os.length)).length),DV.list (window (iD (leftL d os os.length)) 0 d.length)]=_
 have hw:=window_full (iD (leftL d os os.length))
 rw [← hlen] at hw
 rw [window_full,hw];rfl
theorem chkOf_okDO {d:List Int} {os:List Of} (h:bothE d os=0):okDO d os:=by
 unfold bothE at h
 obtain ⟨h1,h⟩:=firstE_cons h
 obtain ⟨h2,h⟩:=firstE_cons h
 have a:=chkUn_len h1
 have b:=chkOf_ok h2
 rw [show max 1 (min 24 (d.length:Int))=d.length by omega] at b
 exact ⟨a.1,a.2.1,a.2.2,b.2.2.1,b.2.2.2.1⟩
def aloS (d:List Int) (os:List Of):List Int×Int:=if bothE d os≠0 then ([],bothE d os) else (aloL d os os.length,0)
def rstS (d:List Int) (os:List Of):List Int×Int:=if bothE d os≠0 then ([],bothE d os) else (leftL d os os.length,0)
theorem c_Allotted (d:List Int) (os:List Of) (hl:d.length < 1073741824) (ho:os.length < 1073741824) (hn:∀ o ∈ os,o.nm.length < 1073741824):PC 29 [iL d,ofsV os] (.tuple [iL (aloS d os).1,DV.int .i64 ((aloS d os).2)]):=by
 refine pureCall_ofR dh29 rfl ?_
 conv=>whnf
 repeat' (first
  |(refine ⟨fun hg=>?_,fun hg=>?_⟩<;>first|contradiction|(conv=>whnf))
  |(refine Or.inl ?_;conv=>whnf)
  |(refine ⟨_,c_checkBoth d os hl ho hn,?_⟩;conv=>whnf)
  |(refine And.intro ?_ ?_;kernel_rfl;conv=>whnf))
 ·have hg:=of_decide_eq_true hg
  rw [aloS,if_pos hg];rfl
 ·have hz:bothE d os=0:=Classical.not_not.1 (of_decide_eq_false hg)
  clear hg
  have hv:aloS d os=(aloL d os os.length,0):=by rw [aloS,if_neg (by omega)]
  repeat' (first
   |(refine ⟨fun hg=>?_,fun hg=>?_⟩<;>first|contradiction|(conv=>whnf))
   |(refine Or.inl ?_;conv=>whnf)
   |(refine ⟨_,c_allotted (chkOf_okDO hz),?_⟩;conv=>whnf)
   |(refine And.intro ?_ ?_;kernel_rfl;conv=>whnf))
  rw [hv];rfl
theorem c_Rests (d:List Int) (os:List Of) (hl:d.length < 1073741824) (ho:os.length < 1073741824) (hn:∀ o ∈ os,o.nm.length < 1073741824):PC 30 [iL d,ofsV os] (.tuple [iL (rstS d os).1,DV.int .i64 ((rstS d os).2)]):=by
 refine pureCall_ofR dh30 rfl ?_
 conv=>whnf
 repeat' (first
  |(refine ⟨fun hg=>?_,fun hg=>?_⟩<;>first|contradiction|(conv=>whnf))
  |(refine Or.inl ?_;conv=>whnf)
  |(refine ⟨_,c_checkBoth d os hl ho hn,?_⟩;conv=>whnf)
  |(refine And.intro ?_ ?_;kernel_rfl;conv=>whnf))
 ·have hg:=of_decide_eq_true hg
  rw [rstS,if_pos hg];rfl
 ·have hz:bothE d os=0:=Classical.not_not.1 (of_decide_eq_false hg)
  clear hg
  have hv:rstS d os=(leftL d os os.length,0):=by rw [rstS,if_neg (by omega)]
  repeat' (first
   |(refine ⟨fun hg=>?_,fun hg=>?_⟩<;>first|contradiction|(conv=>whnf))
   |(refine Or.inl ?_;conv=>whnf)
   |(refine ⟨_,c_allotted (chkOf_okDO hz),?_⟩;conv=>whnf)
   |(refine And.intro ?_ ?_;kernel_rfl;conv=>whnf))
  rw [hv];rfl
end Sh

namespace Sh
open Go Go.Proofs
def imbL (d:List Int) (os:List Of) (i:Nat):List Int:=rng d.length fun s=>if s < i then d.getD s 0 - offS os s else d.getD s 0
theorem imbL_len (d:List Int) (os:List Of) (i:Nat):(imbL d os i).length=d.length:=rng_len _ _
theorem imbL_get {d:List Int} {os:List Of} {i:Nat} (h:i < d.length):(imbL d os i).getD i 0=d.getD i 0:=by unfold imbL;rw [rng_getD _ _ h,if_neg (by omega)]
theorem imbL_set (d:List Int) (os:List Of) (i:Nat):(imbL d os i).set i (d.getD i 0 - offS os i)=imbL d os (i+1):=by
 unfold imbL
 rw [rng_set]
 refine rng_congr (fun k hk=>?_)
 (try dsimp only)
 by_cases e:k=i
 ·subst e;simp
 ·rw [if_neg e]
  by_cases e2:k < i
  ·rw [if_pos e2,if_pos (by omega)]
  ·rw [if_neg e2,if_neg (by omega)]
theorem imbL_zero (d:List Int) (os:List Of):imbL d os 0=d:=by
 unfold imbL
 apply List.ext_getElem
 ·simp [rng]
 ·intro i h1 h2
  simp [rng,List.getD_eq_getElem?_getD,h2]
def imbS (d:List Int) (os:List Of):List Int×Int:=if bothE d os≠0 then ([],bothE d os) else (imbL d os d.length,0)
theorem c_Imbalances (d:List Int) (os:List Of) (hl:d.length < 1073741824) (ho:os.length < 1073741824) (hn:∀ o ∈ os,o.nm.length < 1073741824):PC 31 [iL d,ofsV os] (.tuple [iL (imbS d os).1,DV.int .i64 ((imbS d os).2)]):=by
 have e0:((d.map (DV.int .i64)).length:Int)=d.length:=by simp
 refine pureCall_ofR dh31 rfl ?_
 conv=>whnf
 refine .inl ?_
 conv=>whnf
 refine ⟨_,c_checkBoth d os hl ho hn,?_⟩
 conv=>whnf
 refine ⟨fun hg=>?_,fun hg=>?_⟩
 ·have hg:=of_decide_eq_true hg
  rw [imbS,if_pos hg];rfl
 ·have hz:bothE d os=0:=Classical.not_not.1 (of_decide_eq_false hg)
  clear hg
  conv=>whnf
  have hv:imbS d os=(imbL d os d.length,0):=by rw [imbS,if_neg (by omega)]
  have h:=chkOf_okDO hz
  have hc:=h_CloneI d (by have:=h.2.1;omega) (by intro e;have:=h.1;rw [e] at this;simp at this)
  rw [iD_len] at hc
  have hdd:iD d=iD (imbL d os 0):=by rw [imbL_zero]
  rw [hdd] at hc
  refine .inr ⟨[(7,17)],_,_,_,_,hc,⟨rfl,by kernel_rfl,?_,?_⟩,?_⟩
  ·exact trivial
  ·exact ⟨.inr rfl,trivial⟩
  conv=>whnf
  rw [e0]
  repeat' (first
   |(refine ⟨fun hg=>?_,fun hg=>?_⟩<;>first|contradiction|(conv=>whnf))
   |(refine Or.inl ?_;conv=>whnf)
   |(refine ⟨_,c_offered os d.length h.2.1 h.2.2.2.1 h.2.2.2.2,?_⟩;conv=>whnf)
   |(refine And.intro ?_ ?_;kernel_rfl;conv=>whnf))
  have hL:=offL_len os os.length d.length
  have hof:∀ i,i < d.length→(offL os os.length d.length).getD i 0=offS os i:=fun i hi=>by unfold offL;rw [rng_getD _ _ hi,List.take_length]
  have hlen:∀ i,d.length=(iD (imbL d os i)).length:=fun i=>by rw [iD_len,imbL_len]
  refine dwp_loopU (P:=Tryz.prog) (G:=GC) (k:=dk31_0) (b:=db31_0) (α:=Nat) (fun i=>[(7,.own 17 0 d.length d.length),(23,DV.int .i64 (i))]) (fun i=>[(17,.row 1 (iD (imbL d os i)) false)]) (fun i=>i≤d.length) (fun i=>d.length - i) 0 (Nat.zero_le _) ?_
  conv=>whnf
  refine ⟨rfl,rfl,?_⟩
  conv=>whnf
  refine ⟨rfl,?_⟩
  intro i h1
  conv=>whnf
  refine ⟨fun hb=>?_,fun hb=>?_⟩
  ·have hi:i < d.length:=by have:=of_decide_eq_true hb;simp [hL] at this;omega
   clear hb
   have hi2:i < (offL os os.length d.length).length:=by rw [hL];exact hi
   have hg:=imbL_get (os:=os) hi
   have hgl:(iD (imbL d os i)).getD i .undef=DV.int .i64 ((imbL d os i).getD i 0):=iD_get _ _ (by rw [imbL_len];exact hi)
   have hb1:=h.2.2.1 _ (getD_in 0 hi)
   have hb2:=offS_take h.2.2.2.2 h.2.2.2.1 os.length (i:Int)
   rw [List.take_length] at hb2
   conv=>whnf
   rw [getD_enc _ _ (i) 0 hi2]
   refine ⟨idxA hi2 rfl,?_⟩
   conv=>whnf
   rw [hof i hi]
   refine ⟨⟨hlen i,by omega,by omega⟩,?_⟩
   conv=>whnf
   (try rw [Int.toNat_natCast,Nat.zero_add i])
   refine ⟨⟨hlen i,by decide⟩,?_⟩
   rw [hgl,hg]
   conv=>whnf
   rw [wrap_in (by omega) (by omega)]
   refine ⟨⟨hlen i,by omega,by omega⟩,?_⟩
   conv=>whnf
   (try rw [Int.toNat_natCast,Nat.zero_add i])
   refine ⟨⟨hlen i,by decide,rfl⟩,?_⟩
   conv=>whnf
   rw [wrap_succ i (by omega)]
   refine ⟨i+1,rfl,rfl,?_,hi,by omega⟩
   have hr:(iD (imbL d os i)).set i (DV.int .i64 (d.getD i 0 - offS os i))=iD (imbL d os (i+1)):=by
    rw [iD_set' _ i _ rfl,imbL_set]
   rw [← hr];rfl
  ·have hi:i=d.length:=by have:=of_decide_eq_false hb;simp [hL] at this;omega
   clear hb
   conv=>whnf
   refine ⟨hlen i,?_⟩
   have hw:window (iD (imbL d os i)) 0 d.length=iD (imbL d os i):=by
    have:=window_full (iD (imbL d os i))
    rwa [← hlen i] at this
   rw [hw,hv,hi];rfl
end Sh

namespace Sh
open Go Go.Proofs
def ernI (d:List Int) (os:List Of) (i:Nat):Int:=sumI (rng i fun k=>aloN d os k * (os.getD k O0).pr)
theorem ernI_succ (d:List Int) (os:List Of) (i:Nat):ernI d os (i+1)=ernI d os i+aloN d os i * (os.getD i O0).pr:=by unfold ernI;rw [rng_succ,sumI_append,sumI_one]
theorem aloN_bd {d:List Int} {os:List Of} (h:okDO d os) {k:Nat} (hk:k < os.length):0≤aloN d os k∧aloN d os k≤1000000:=by
 have hok:=h.2.2.2.2 _ (getD_in O0 hk)
 obtain ⟨_,s0,s1,u0,u1,_⟩:=hok
 obtain ⟨s,hs⟩:=Int.eq_ofNat_of_zero_le s0
 have hlb:=leftL_bd h (k:=k) (s:=s) (by omega)
 unfold aloN
 rw [hs,Int.toNat_natCast]
 split<;>omega
theorem ern_one {d:List Int} {os:List Of} (h:okDO d os) {k:Nat} (hk:k < os.length) : -100000000000≤aloN d os k * (os.getD k O0).pr∧aloN d os k * (os.getD k O0).pr≤100000000000:=by
 have hok:=h.2.2.2.2 _ (getD_in O0 hk)
 obtain ⟨_,s0,s1,u0,u1,p0,p1⟩:=hok
 have ha:=aloN_bd h hk
 have:=mul_bd (a:=aloN d os k) (b:=(os.getD k O0).pr) (A:=1000000) (B:=100000) (by omega) (by omega) (by omega) (by omega)
 omega
theorem ernI_bd {d:List Int} {os:List Of} (h:okDO d os):∀ i:Nat,i≤os.length → -100000000000 * i≤ernI d os i∧ernI d os i≤100000000000 * i
 |0,_=>by simp [ernI,rng,sumI]
 |i+1,hi=>by
  have h1:=ernI_bd h i (by omega)
  have h2:=ern_one h (k:=i) (by omega)
  rw [ernI_succ];omega
def ernS (d:List Int) (os:List Of):Int×Int:=if bothE d os≠0 then (0,bothE d os) else (ernI d os os.length,0)
theorem c_Earned (d:List Int) (os:List Of) (hl:d.length < 1073741824) (ho:os.length < 1073741824) (hn:∀ o ∈ os,o.nm.length < 1073741824):PC 32 [iL d,ofsV os] (.tuple [DV.int .i64 ((ernS d os).1),DV.int .i64 ((ernS d os).2)]):=by
 refine pureCall_ofR dh32 rfl ?_
 conv=>whnf
 refine .inl ?_
 conv=>whnf
 refine ⟨_,c_checkBoth d os hl ho hn,?_⟩
 conv=>whnf
 refine ⟨fun hg=>?_,fun hg=>?_⟩
 ·have hg:=of_decide_eq_true hg
  rw [ernS,if_pos hg];rfl
 ·have hz:bothE d os=0:=Classical.not_not.1 (of_decide_eq_false hg)
  clear hg
  conv=>whnf
  have hv:ernS d os=(ernI d os os.length,0):=by rw [ernS,if_neg (by omega)]
  have h:=chkOf_okDO hz
  have hol:=h.2.2.2.1
  repeat' (first
   |(refine ⟨fun hg=>?_,fun hg=>?_⟩<;>first|contradiction|(conv=>whnf))
   |(refine Or.inl ?_;conv=>whnf)
   |(refine ⟨_,c_allotted h,?_⟩;conv=>whnf)
   |(refine And.intro ?_ ?_;kernel_rfl;conv=>whnf))
  refine dwp_loopU (P:=Tryz.prog) (G:=GC) (k:=dk32_0) (b:=db32_0) (α:=Nat) (fun i=>[(7,DV.int .i64 (ernI d os i)),(26,DV.int .i64 (i))]) (fun _=>[]) (fun i=>i≤os.length) (fun i=>os.length - i) 0 (Nat.zero_le _) ?_
  conv=>whnf
  refine ⟨rfl,rfl,?_⟩
  conv=>whnf
  refine ⟨rfl,?_⟩
  intro i h1
  conv=>whnf
  have hL:=aloL_len d os os.length
  refine ⟨fun hb=>?_,fun hb=>?_⟩
  ·have hi:i < os.length:=by have:=of_decide_eq_true hb;simp [hL] at this;omega
   clear hb
   have hi2:i < (aloL d os os.length).length:=by rw [hL];exact hi
   have hg:(aloL d os os.length).getD i 0=aloN d os i:=rng_getD _ _ hi
   have hs:=ernI_succ d os i
   have b1:=ern_one h hi
   have b2:=ernI_bd h i h1
   conv=>whnf
   rw [getD_enc _ _ (i) 0 hi2]
   refine ⟨idxA hi2 rfl,?_⟩
   conv=>whnf
   rw [hg]
   rw [getD_enc _ _ (i) O0 hi]
   refine ⟨idxA hi rfl,?_⟩
   conv=>whnf
   rw [wrap_succ i (by omega),wrap_in (n:=aloN d os i * (os.getD i O0).pr) (by omega) (by omega),wrap_in (by omega) (by omega),← hs]
   exact ⟨i+1,rfl,rfl,rfl,hi,by omega⟩
  ·have hi:i=os.length:=by have:=of_decide_eq_false hb;simp [hL] at this;omega
   clear hb
   conv=>whnf
   rw [hi,hv];rfl
end Sh

namespace Sh
open Go Go.Proofs
end Sh

namespace Sh
open Go Go.Proofs
end Sh

namespace Sh
open Go
def chkBa (b:Ba):Int:=firstE [withE b.ca 1 24,withE b.ra 1 24,withE b.lo 0 1000,withE b.we 0 100000,withE b.le 0 b.ca]
structure OkB (b:Ba):Prop where
 c0:1≤b.ca
 c1:b.ca≤24
 r0:1≤b.ra
 r1:b.ra≤24
 l0:0≤b.lo
 l1:b.lo≤1000
 w0:0≤b.we
 w1:b.we≤100000
 e0:0≤b.le
 e1:b.le≤b.ca
theorem chkBa_ok {b:Ba} (h:chkBa b=0):OkB b:=by
 unfold chkBa at h
 obtain ⟨h1,h⟩:=firstE_cons h
 obtain ⟨h2,h⟩:=firstE_cons h
 obtain ⟨h3,h⟩:=firstE_cons h
 obtain ⟨h4,h⟩:=firstE_cons h
 obtain ⟨h5,h⟩:=firstE_cons h
 have a1:=withE_zero h1
 have a2:=withE_zero h2
 have a3:=withE_zero h3
 have a4:=withE_zero h4
 have a5:=withE_zero h5
 exact ⟨a1.1,a1.2,a2.1,a2.2,a3.1,a3.2,a4.1,a4.2,a5.1,a5.2⟩
def lvE (b:Ba) (n:Int):Int:=withE n 0 b.ca
def farB (b:Ba) (f t:Int):Bool:=decide (b.ra < t - f) || decide (b.ra < f - t)
def wthI (b:Ba) (p f t:Int):Int:=if f < t then -(p * (t - f)) else if t < f then p * ((f - t) * (1000 - b.lo) / 1000) - b.we * (f - t) else 0
def OkP (p:Int):Prop := -100000≤p∧p≤100000
def OkL24 (n:Int):Prop:=0≤n∧n≤24
theorem left_bd {b:Ba} (hb:OkB b) {d:Int} (h0:0≤d) (h1:d≤24):0≤d * (1000 - b.lo)∧d * (1000 - b.lo)≤24000∧0≤d * (1000 - b.lo) / 1000∧d * (1000 - b.lo) / 1000≤24∧Int.tdiv (d * (1000 - b.lo)) 1000=d * (1000 - b.lo) / 1000:=by
 have hl0:=hb.l0
 have hl1:=hb.l1
 have a:0≤d * (1000 - b.lo):=Int.mul_nonneg h0 (by omega)
 have c:d * (1000 - b.lo)≤24 * 1000:=Int.mul_le_mul h1 (by omega) (by omega) (by omega)
 refine ⟨a,by omega,by omega,by omega,Int.tdiv_eq_ediv_of_nonneg a⟩
theorem pmul_bd {p d:Int} (hp:OkP p) (h0:0≤d) (h1:d≤24) : -2400000≤p * d∧p * d≤2400000:=by
 have a:=Int.mul_nonneg (show 0≤p+100000 by have:=hp.1;omega) h0
 have c:=Int.mul_nonneg (show 0≤100000 - p by have:=hp.2;omega) h0
 rw [Int.add_mul] at a
 rw [Int.sub_mul] at c
 omega
theorem wmul_bd {b:Ba} (hb:OkB b) {d:Int} (h0:0≤d) (h1:d≤24):0≤b.we * d∧b.we * d≤2400000:=by
 have:=hb.w0
 have:=hb.w1
 have a:=pmul_bd (p:=b.we) ⟨by omega,by omega⟩ h0 h1
 exact ⟨Int.mul_nonneg (by omega) h0,a.2⟩
theorem wthI_bd {b:Ba} (hb:OkB b) {p f t:Int} (hp:OkP p) (hf:OkL24 f) (ht:OkL24 t) : -4800000≤wthI b p f t∧wthI b p f t≤2400000:=by
 obtain ⟨f0,f1⟩:=hf
 obtain ⟨t0,t1⟩:=ht
 unfold wthI
 split
 ·have:=pmul_bd hp (d:=t - f) (by omega) (by omega);omega
 ·split
  ·have h:=left_bd hb (d:=f - t) (by omega) (by omega)
   have h2:=pmul_bd hp h.2.2.1 h.2.2.2.1
   have h3:=wmul_bd hb (d:=f - t) (by omega) (by omega)
   omega
  ·omega
theorem wthI_same (b:Ba) (p f:Int):wthI b p f f=0:=by unfold wthI;rw [if_neg (by omega),if_neg (by omega)]
def chkBP (b:Ba) (ps:List Int):Int:=firstE [chkBa b,countE ps.length 24,firstE (ps.map prE)]
theorem chkBP_eq (b:Ba) (ps:List Int):chkBP b ps=firstE [chkBa b,chkPs ps]:=by
 unfold chkBP chkPs
 generalize firstE (ps.map prE)=z
 generalize countE (ps.length:Int) 24=y
 simp only [firstE]
 grind
theorem chkBP_ok {b:Ba} {ps:List Int} (h:chkBP b ps=0):OkB b∧0 < ps.length∧ps.length≤24∧∀ p ∈ ps,OkP p:=by
 rw [chkBP_eq] at h
 obtain ⟨h1,h⟩:=firstE_cons h
 obtain ⟨h2,h⟩:=firstE_cons h
 have:=chkPs_ok h2
 exact ⟨chkBa_ok h1,this.1,this.2.1,this.2.2⟩
def plE (b:Ba):Int→List Int→Int
 |_,[]=>0
 |l,n :: r=>if lvE b n≠0 then lvE b n else if farB b l n then 21 else plE b n r
def prvN (b:Ba) (ls:List Int) (i:Nat):Int:=(b.le :: ls).getD i 0
theorem prvN_succ (b:Ba) (ls:List Int) (i:Nat):prvN b ls (i+1)=ls.getD i 0:=rfl
theorem plE_drop (b:Ba) (ls:List Int) (i:Nat) (h:i < ls.length):plE b (prvN b ls i) (ls.drop i)=if lvE b (ls.getD i 0)≠0 then lvE b (ls.getD i 0) else if farB b (prvN b ls i) (ls.getD i 0) then 21 else plE b (prvN b ls (i+1)) (ls.drop (i+1)):=by
 rw [drop_getD ls i 0 h];rfl
def valN (b:Ba) (ps ls:List Int) (k:Nat):Int:=wthI b (ps.getD k 0) (prvN b ls k) (ls.getD k 0)
def valI (b:Ba) (ps ls:List Int) (i:Nat):Int:=sumI (rng i (valN b ps ls))
theorem valI_succ (b:Ba) (ps ls:List Int) (i:Nat):valI b ps ls (i+1)=valI b ps ls i+valN b ps ls i:=by unfold valI;rw [rng_succ,sumI_append,sumI_one]
def ageN (b:Ba) (ls:List Int) (k:Nat):Int:=max 0 (prvN b ls k - ls.getD k 0)
def ageI (b:Ba) (ls:List Int) (i:Nat):Int:=sumI (rng i (ageN b ls))
theorem ageI_succ (b:Ba) (ls:List Int) (i:Nat):ageI b ls (i+1)=ageI b ls i+ageN b ls i:=by unfold ageI;rw [rng_succ,sumI_append,sumI_one]
def OkLs (b:Ba) (ls:List Int):Prop:=∀ k,k < ls.length→0≤ls.getD k 0∧ls.getD k 0≤b.ca
theorem lvE_ok {b:Ba} {n:Int} (h:lvE b n=0):0≤n∧n≤b.ca:=withE_zero h
theorem plE_ok {b:Ba}:∀ {ls:List Int} {l:Int},plE b l ls=0→OkLs b ls
 |[],_,_=>fun k hk=>absurd hk (Nat.not_lt_zero k)
 |n :: r,l,h=>by
  unfold plE at h
  split at h
  ·contradiction
  ·rename_i h0
   split at h
   ·contradiction
   ·intro k hk
    cases k with
    |zero=>exact lvE_ok (Classical.not_not.1 h0)
    |succ k=>exact plE_ok h k (by simpa using hk)
theorem prv_ok {b:Ba} (hb:OkB b) {ls:List Int} (h:OkLs b ls):∀ {k:Nat},k≤ls.length→OkL24 (prvN b ls k)
 |0,_=>by have:=hb.e0;have:=hb.e1;have:=hb.c1;exact ⟨this |> fun _=>hb.e0,by show b.le≤24;omega⟩
 |k+1,hk=>by have h1:=h k (by omega);have:=hb.c1;exact ⟨h1.1,by rw [prvN_succ];omega⟩
theorem lev_ok {b:Ba} (hb:OkB b) {ls:List Int} (h:OkLs b ls) {k:Nat} (hk:k < ls.length):OkL24 (ls.getD k 0):=by have h1:=h k hk;have:=hb.c1;exact ⟨h1.1,by omega⟩
theorem valN_bd {b:Ba} (hb:OkB b) {ps ls:List Int} (hp:∀ p ∈ ps,OkP p) (h:OkLs b ls) {k:Nat} (hk:k < ls.length) (hk2:k < ps.length) : -4800000≤valN b ps ls k∧valN b ps ls k≤2400000 :=
 wthI_bd hb (hp _ (getD_in 0 hk2)) (prv_ok hb h (by omega)) (lev_ok hb h hk)
theorem valI_bd {b:Ba} (hb:OkB b) {ps ls:List Int} (hp:∀ p ∈ ps,OkP p) (h:OkLs b ls):∀ {i:Nat},i≤ls.length→i≤ps.length → -4800000 * i≤valI b ps ls i∧valI b ps ls i≤4800000 * i
 |0,_,_=>by simp [valI,rng,sumI]
 |i+1,h1,h2=>by
  have a:=valI_bd hb hp h (i:=i) (by omega) (by omega)
  have c:=valN_bd hb hp h (k:=i) (by omega) (by omega)
  rw [valI_succ];omega
theorem ageN_bd {b:Ba} (hb:OkB b) {ls:List Int} (h:OkLs b ls) {k:Nat} (hk:k < ls.length):0≤ageN b ls k∧ageN b ls k≤24:=by
 have a:=prv_ok hb h (k:=k) (by omega)
 have c:=lev_ok hb h hk
 unfold OkL24 at a c
 unfold ageN;omega
theorem ageI_bd {b:Ba} (hb:OkB b) {ls:List Int} (h:OkLs b ls):∀ {i:Nat},i≤ls.length→0≤ageI b ls i∧ageI b ls i≤24 * i
 |0,_=>by simp [ageI,rng,sumI]
 |i+1,h1=>by
  have a:=ageI_bd hb h (i:=i) (by omega)
  have c:=ageN_bd hb h (k:=i) (by omega)
  rw [ageI_succ];omega
def planE (b:Ba) (ps ls:List Int):Int:=if chkBP b ps≠0 then chkBP b ps else if ls.length≠ps.length then 2 else plE b b.le ls
theorem planE_ok {b:Ba} {ps ls:List Int} (h:planE b ps ls=0):OkB b∧0 < ps.length∧ps.length≤24∧(∀ p ∈ ps,OkP p)∧ls.length=ps.length∧OkLs b ls:=by
 unfold planE at h
 split at h
 ·contradiction
 ·rename_i h0
  split at h
  ·contradiction
  ·rename_i h1
   have:=chkBP_ok (Classical.not_not.1 h0)
   exact ⟨this.1,this.2.1,this.2.2.1,this.2.2.2,Classical.not_not.1 h1,plE_ok h⟩
end Sh

namespace Sh
open Go Go.Proofs
theorem c_CheckBattery (b:Ba):PC 49 [encB b] (DV.int .i64 (chkBa b)):=by
 refine pureCall_ofR dh49 rfl ?_
 conv=>whnf
 repeat' (first
  |(refine ⟨fun hg=>?_,fun hg=>?_⟩<;>first|contradiction|(conv=>whnf))
  |(refine Or.inl ?_;conv=>whnf)
  |(refine ⟨_,c_within ..,?_⟩;conv=>whnf)
  |(refine ⟨_,c_first [_,_,_,_,_] (by simp),?_⟩;conv=>whnf)
  |(refine And.intro ?_ ?_;kernel_rfl;conv=>whnf))
 rfl
theorem c_checkLevel (b:Ba) (n:Int):PC 104 [encB b,DV.int .i64 (n)] (DV.int .i64 (lvE b n)):=by
 refine pureCall_ofR dh104 rfl ?_
 conv=>whnf
 repeat' (first
  |(refine ⟨fun hg=>?_,fun hg=>?_⟩<;>first|contradiction|(conv=>whnf))
  |(refine Or.inl ?_;conv=>whnf)
  |(refine ⟨_,c_within ..,?_⟩;conv=>whnf)
  |(refine And.intro ?_ ?_;kernel_rfl;conv=>whnf))
 rfl
theorem c_far (b:Ba) (f t:Int) (hf:OkL24 f) (ht:OkL24 t):PC 105 [encB b,DV.int .i64 (f),DV.int .i64 (t)] (.bool (farB b f t)):=by
 obtain ⟨f0,f1⟩:=hf
 obtain ⟨t0,t1⟩:=ht
 have e1:IntKind.i64.wrap (t - f)=t - f:=wrap_in (by omega) (by omega)
 have e2:IntKind.i64.wrap (f - t)=f - t:=wrap_in (by omega) (by omega)
 refine pureCall_ofR dh105 rfl ?_
 conv=>whnf
 rw [e1]
 refine ⟨fun hg=>?_,fun hg=>?_⟩
 ·conv=>whnf
  rw [e2]
  refine bool_eq ?_
  unfold farB
  rw [hg];rfl
 ·conv=>whnf
  refine bool_eq ?_
  unfold farB
  rw [hg];rfl
theorem c_kinds:PC 138 [] (.agg [.func 159 [],.func 160 [],.func 161 [],.func 162 []]):=by
 refine pureCall_ofR dh138 rfl ?_
 conv=>whnf
 rfl
theorem c_k159 (d:Int):PC 159 [DV.int .i64 (d)] (.bool (decide (0 < d))):=by
 refine pureCall_ofR dh159 rfl ?_
 conv=>whnf
 rfl
theorem c_k161 (d:Int):PC 161 [DV.int .i64 (d)] (.bool (decide (d < 0))):=by
 refine pureCall_ofR dh161 rfl ?_
 conv=>whnf
 rfl
theorem c_k160 (b:Ba) (p d:Int) (hp:OkP p) (h0:0≤d) (h1:d≤24):PC 160 [encB b,DV.int .i64 (p),DV.int .i64 (d)] (DV.int .i64 (-(p * d))):=by
 have hb:=pmul_bd hp h0 h1
 have hp0:=hp.1
 have hp1:=hp.2
 refine pureCall_ofR dh160 rfl ?_
 conv=>whnf
 refine int_eq ?_
 rw [wrap_in (n := -p) (by omega) (by omega),Int.neg_mul,wrap_in (by omega) (by omega)]
theorem c_k162 (b:Ba) (hb:OkB b) (p d:Int) (hp:OkP p) (h0:0≤d) (h1:d≤24):PC 162 [encB b,DV.int .i64 (p),DV.int .i64 (-d)] (DV.int .i64 (p * (d * (1000 - b.lo) / 1000) - b.we * d)):=by
 have hl:=left_bd hb h0 h1
 have hpm:=pmul_bd hp hl.2.2.1 hl.2.2.2.1
 have hwm:=wmul_bd hb h0 h1
 have hl0:=hb.l0
 have hl1:=hb.l1
 refine pureCall_ofR dh162 rfl ?_
 conv=>whnf
 refine ⟨by decide,?_⟩
 conv=>whnf
 refine int_eq ?_
 rw [Int.neg_neg,wrap_in (n:=d) (by omega) (by omega),wrap_in (n:=1000 - b.lo) (by omega) (by omega),wrap_in (n:=d * (1000 - b.lo)) (by omega) (by omega),hl.2.2.2.2,wrap_in (n:=d * (1000 - b.lo) / 1000) (by omega) (by omega),wrap_in (n:=p * (d * (1000 - b.lo) / 1000)) (by omega) (by omega),Int.mul_neg,wrap_in (n := -(b.we * d)) (by omega) (by omega),wrap_in (by omega) (by omega)]
 omega
end Sh

namespace Sh
open Go Go.Proofs
theorem c_worth (b:Ba) (hb:OkB b) (p f t:Int) (hp:OkP p) (hf:OkL24 f) (ht:OkL24 t):PC 106 [encB b,DV.int .i64 (p),DV.int .i64 (f),DV.int .i64 (t)] (DV.int .i64 (wthI b p f t)):=by
 obtain ⟨f0,f1⟩:=hf
 obtain ⟨t0,t1⟩:=ht
 have ew:IntKind.i64.wrap (t - f)=t - f:=wrap_in (by omega) (by omega)
 refine pureCall_ofR dh106 rfl ?_
 conv=>whnf
 refine .inl ?_
 conv=>whnf
 refine ⟨_,c_kinds ..,?_⟩
 conv=>whnf
 refine dwp_loopU (P:=Tryz.prog) (G:=GC) (k:=dk106_0) (b:=db106_0) (α:=Nat) (fun i=>[(12,DV.int .i64 (i))]) (fun _=>[(4,.box 5 (encB b))]) (fun i=>i≤2∧(0 < i→¬ 0 < t - f)∧(1 < i→¬ t - f < 0)) (fun i=>2 - i) 0 ⟨by omega,by omega,by omega⟩ ?_
 conv=>whnf
 refine ⟨rfl,rfl,?_⟩
 conv=>whnf
 refine ⟨rfl,?_⟩
 intro i h1
 obtain ⟨h1,h2,h3⟩:=h1
 rcases (by omega:i=0∨i=1∨i=2) with rfl|rfl|rfl
 ·conv=>whnf
  refine ⟨fun hc=>?_,fun hc=>absurd hc (by decide)⟩
  clear hc
  conv=>whnf
  refine ⟨⟨by decide,by decide,rfl⟩,?_⟩
  conv=>whnf
  rw [ew]
  refine .inl ?_
  conv=>whnf
  refine ⟨_,c_k159 ..,?_⟩
  conv=>whnf
  refine ⟨fun hg=>?_,fun hg=>?_⟩
  ·have hg:0 < t - f:=of_decide_eq_true hg
   conv=>whnf
   rw [ew]
   refine .inl ?_
   conv=>whnf
   refine ⟨_,c_k160 b p (t - f) hp (by omega) (by omega),?_⟩
   conv=>whnf
   refine int_eq ?_
   unfold wthI
   rw [if_pos (by omega)]
  ·have hg:¬ 0 < t - f:=of_decide_eq_false hg
   conv=>whnf
   exact ⟨1,rfl,rfl,rfl,⟨by omega,fun _=>hg,fun h=>by omega⟩,by omega⟩
 ·have h2:=h2 (by omega)
  have en:t - f = -(f - t):=by omega
  conv=>whnf
  refine ⟨fun hc=>?_,fun hc=>absurd hc (by decide)⟩
  clear hc
  conv=>whnf
  refine ⟨⟨by decide,by decide,rfl⟩,?_⟩
  conv=>whnf
  rw [ew]
  refine .inl ?_
  conv=>whnf
  refine ⟨_,c_k161 ..,?_⟩
  conv=>whnf
  refine ⟨fun hg=>?_,fun hg=>?_⟩
  ·have hg:t - f < 0:=of_decide_eq_true hg
   conv=>whnf
   rw [ew,en]
   refine .inl ?_
   conv=>whnf
   refine ⟨_,c_k162 b hb p (f - t) hp (by omega) (by omega),?_⟩
   conv=>whnf
   refine int_eq ?_
   unfold wthI
   rw [if_neg (by omega),if_pos (by omega)]
  ·have hg:¬ t - f < 0:=of_decide_eq_false hg
   conv=>whnf
   exact ⟨2,rfl,rfl,rfl,⟨by omega,fun _=>h2,fun _=>hg⟩,by omega⟩
 ·have h2:=h2 (by omega)
  have h3:=h3 (by omega)
  conv=>whnf
  refine ⟨fun hc=>absurd hc (by decide),fun hc=>?_⟩
  clear hc
  conv=>whnf
  refine int_eq ?_
  unfold wthI
  rw [if_neg (by omega),if_neg (by omega)]
def worthS (b:Ba) (p f t:Int):Int×Int:=if firstE [chkBa b,prE p,lvE b f,lvE b t]≠0 then (0,firstE [chkBa b,prE p,lvE b f,lvE b t]) else if farB b f t then (0,21) else (wthI b p f t,0)
theorem worth_ok {b:Ba} {p f t:Int} (h:firstE [chkBa b,prE p,lvE b f,lvE b t]=0):OkB b∧OkP p∧OkL24 f∧OkL24 t:=by
 obtain ⟨h1,h⟩:=firstE_cons h
 obtain ⟨h2,h⟩:=firstE_cons h
 obtain ⟨h3,h⟩:=firstE_cons h
 obtain ⟨h4,h⟩:=firstE_cons h
 have hb:=chkBa_ok h1
 have:=hb.c1
 have a:=withE_zero h2
 have c:=lvE_ok h3
 have d:=lvE_ok h4
 exact ⟨hb,a,⟨c.1,by omega⟩,⟨d.1,by omega⟩⟩
theorem c_Worth (b:Ba) (p f t:Int):PC 37 [encB b,DV.int .i64 (p),DV.int .i64 (f),DV.int .i64 (t)] (.tuple [DV.int .i64 ((worthS b p f t).1),DV.int .i64 ((worthS b p f t).2)]):=by
 refine pureCall_ofR dh37 rfl ?_
 conv=>whnf
 repeat' (first
  |(refine ⟨fun hg=>?_,fun hg=>?_⟩<;>first|contradiction|(conv=>whnf))
  |(refine Or.inl ?_;conv=>whnf)
  |(refine ⟨_,c_CheckBattery ..,?_⟩;conv=>whnf)
  |(refine ⟨_,c_checkPrice ..,?_⟩;conv=>whnf)
  |(refine ⟨_,c_checkLevel ..,?_⟩;conv=>whnf)
  |(refine ⟨_,c_first [_,_,_,_] (by simp),?_⟩;conv=>whnf)
  |(refine And.intro ?_ ?_;kernel_rfl;conv=>whnf))
 ·have hg:firstE [chkBa b,prE p,lvE b f,lvE b t]≠0:=of_decide_eq_true hg
  rw [worthS,if_pos hg];rfl
 ·have hg:=of_decide_eq_false hg
  have hz:firstE [chkBa b,prE p,lvE b f,lvE b t]=0:=Classical.not_not.1 hg
  obtain ⟨hb,hp,hf,ht⟩:=worth_ok hz
  repeat' (first
   |(refine ⟨fun hg=>?_,fun hg=>?_⟩<;>first|contradiction|(conv=>whnf))
   |(refine Or.inl ?_;conv=>whnf)
   |(refine ⟨_,c_far b f t hf ht,?_⟩;conv=>whnf)
   |(refine And.intro ?_ ?_;kernel_rfl;conv=>whnf))
  ·rw [worthS,if_neg (by omega),if_pos hg];rfl
  ·repeat' (first
    |(refine ⟨fun hg=>?_,fun hg=>?_⟩<;>first|contradiction|(conv=>whnf))
    |(refine Or.inl ?_;conv=>whnf)
    |(refine ⟨_,c_worth b hb p f t hp hf ht,?_⟩;conv=>whnf)
    |(refine And.intro ?_ ?_;kernel_rfl;conv=>whnf))
   rw [worthS,if_neg (by omega),hg];rfl
theorem c_mappedP (l:List Int) (hl:l.length < 1073741824):PC 85 [iL l,.func 100 []] (iL (l.map prE)):=c_mappedI l 100 prE hl (fun c _=>c_checkPrice c)
theorem c_checkPrices (b:Ba) (ps:List Int) (hl:ps.length < 1073741824):PC 107 [encB b,iL ps] (DV.int .i64 (chkBP b ps)):=by
 have e0:((ps.map (DV.int .i64)).length:Int)=ps.length:=by simp
 have k1:=c_mappedP ps hl
 have k2:=c_first (ps.map prE) (by simp;omega)
 refine pureCall_ofR dh107 rfl ?_
 conv=>whnf
 repeat' (first
  |(refine ⟨fun hg=>?_,fun hg=>?_⟩<;>first|contradiction|(conv=>whnf))
  |(refine Or.inl ?_;conv=>whnf)
  |(refine ⟨_,k1,?_⟩;conv=>whnf)
  |(refine ⟨_,k2,?_⟩;conv=>whnf)
  |(refine ⟨_,c_CheckBattery ..,?_⟩;conv=>whnf)
  |(refine ⟨_,c_sized ..,?_⟩;conv=>whnf)
  |(refine ⟨_,c_first [_,_,_] (by simp),?_⟩;conv=>whnf)
  |(refine And.intro ?_ ?_;kernel_rfl;conv=>whnf))
 refine int_eq ?_
 unfold chkBP
 rw [e0]
theorem c_CheckPlan (b:Ba) (ps ls:List Int) (hl:ps.length < 1073741824) (hl2:ls.length < 1073741824):PC 38 [encB b,iL ps,iL ls] (DV.int .i64 (planE b ps ls)):=by
 have e0:∀ l:List Int,((l.map (DV.int .i64)).length:Int)=l.length:=by simp
 have hk:planE b ps ls=if firstE [chkBP b ps,whenE (decide ((ls.length:Int)≠ps.length)) 2]≠0 then firstE [chkBP b ps,whenE (decide ((ls.length:Int)≠ps.length)) 2] else plE b b.le ls:=by
  unfold planE whenE
  generalize chkBP b ps=z
  simp only [firstE]
  grind
 refine pureCall_ofR dh38 rfl ?_
 conv=>whnf
 repeat' (first
  |(refine ⟨fun hg=>?_,fun hg=>?_⟩<;>first|contradiction|(conv=>whnf))
  |(refine Or.inl ?_;conv=>whnf)
  |(refine ⟨_,c_checkPrices b ps hl,?_⟩;conv=>whnf)
  |(refine ⟨_,c_when ..,?_⟩;conv=>whnf)
  |(refine ⟨_,c_first [_,_] (by simp),?_⟩;conv=>whnf)
  |(refine And.intro ?_ ?_;kernel_rfl;conv=>whnf))
 ·have hg:=of_decide_eq_true hg
  rw [e0,e0] at hg ⊢
  exact int_eq (by rw [hk,if_pos hg])
 ·have hg:=of_decide_eq_false hg
  rw [e0,e0] at hg
  rw [if_neg hg] at hk
  have hz:=firstE_cons (Classical.not_not.1 hg)
  have hok:=(chkBP_ok hz.1).1
  have hc1:=hok.c1
  clear hg hz
  refine dwp_loopU (P:=Tryz.prog) (G:=GC) (k:=dk38_0) (b:=db38_0) (α:=Nat) (fun i=>[(8,DV.int .i64 (prvN b ls i)),(30,DV.int .i64 (i))]) (fun _=>[(3,.box 5 (encB b))]) (fun i=>i≤ls.length∧OkL24 (prvN b ls i)∧planE b ps ls=plE b (prvN b ls i) (ls.drop i)) (fun i=>ls.length - i) 0 ⟨Nat.zero_le _,⟨hok.e0,by have:=hok.e1;show b.le≤24;omega⟩,hk⟩ ?_
  conv=>whnf
  refine ⟨rfl,rfl,?_⟩
  conv=>whnf
  refine ⟨rfl,?_⟩
  intro i h1
  obtain ⟨h1,h2,h3⟩:=h1
  conv=>whnf
  refine ⟨fun hb=>?_,fun hb=>?_⟩
  ·have hi:i < ls.length:=by have:=of_decide_eq_true hb;rw [e0] at this;omega
   have hd:=plE_drop b ls i hi
   clear hb
   conv=>whnf
   rw [getD_enc _ _ (i) 0 hi]
   refine ⟨idxA hi rfl,?_⟩
   conv=>whnf
   refine .inl ?_
   conv=>whnf
   refine ⟨_,c_checkLevel ..,?_⟩
   conv=>whnf
   refine ⟨fun hg=>?_,fun hg=>?_⟩
   ·have hg:=of_decide_eq_true hg
    rw [if_pos hg] at hd
    conv=>whnf
    exact int_eq (by rw [h3,hd])
   ·have hg:=of_decide_eq_false hg
    rw [if_neg hg] at hd
    have hlv:=lvE_ok (Classical.not_not.1 hg)
    have hok2:OkL24 (ls.getD i 0):=⟨hlv.1,by omega⟩
    clear hg
    conv=>whnf
    repeat' (first
     |(refine ⟨fun hg=>?_,fun hg=>?_⟩<;>first|contradiction|(conv=>whnf))
     |(refine Or.inl ?_;conv=>whnf)
     |(refine ⟨_,c_far b (prvN b ls i) (ls.getD i 0) h2 hok2,?_⟩;conv=>whnf)
     |(refine And.intro ?_ ?_;kernel_rfl;conv=>whnf))
    ·rw [if_pos hg] at hd
     exact int_eq (by rw [h3,hd])
    ·rw [hg] at hd
     rw [wrap_succ i (by omega)]
     refine ⟨i+1,rfl,rfl,rfl,⟨hi,hok2,by rw [h3,hd];rfl⟩,by omega⟩
  ·have hi:i=ls.length:=by have:=of_decide_eq_false hb;rw [e0] at this;omega
   clear hb
   conv=>whnf
   exact int_eq (by rw [h3,hi,List.drop_of_length_le (Nat.le_refl _)];rfl)
end Sh

namespace Sh
open Go
def vrO (l:List Vr) (i:Nat):Bool:=(decide (i=0) && decide ((l.getD i Vr0).fr≠0)) || (decide (0 < i) && decide ((l.getD i Vr0).fr≤(l.getD (i - 1) Vr0).fr))
def vrE (l:List Vr) (i:Nat):Int:=firstE [withE (l.getD i Vr0).fr 0 23,prE (l.getD i Vr0).pr,whenE (vrO l i) 11]
def vrL (l:List Vr):List Int:=rng l.length (vrE l)
def chkVr (l:List Vr):Int:=if countE l.length 8≠0 then countE l.length 8 else firstE (vrL l)
structure OkVr (l:List Vr):Prop where
 n0:0 < l.length
 n1:l.length≤8
 fr:∀ i,i < l.length→0≤(l.getD i Vr0).fr∧(l.getD i Vr0).fr≤23
 pr:∀ i,i < l.length→OkP (l.getD i Vr0).pr
 z:(l.getD 0 Vr0).fr=0
 up:∀ i,i+1 < l.length→(l.getD i Vr0).fr < (l.getD (i+1) Vr0).fr
theorem chkVr_ok {l:List Vr} (h:chkVr l=0):OkVr l:=by
 unfold chkVr at h
 split at h
 ·contradiction
 ·rename_i h0
  have hc:=countE_ok (Classical.not_not.1 h0)
  have hv:∀ i,i < l.length→vrE l i=0:=fun i hi=>firstE_mem h _ (List.mem_map.2 ⟨i,List.mem_range.2 hi,rfl⟩)
  have hs:∀ i,i < l.length→(0≤(l.getD i Vr0).fr∧(l.getD i Vr0).fr≤23)∧OkP (l.getD i Vr0).pr∧vrO l i=false:=fun i hi=>by
   have:=hv i hi
   unfold vrE at this
   obtain ⟨h1,this⟩:=firstE_cons this
   obtain ⟨h2,this⟩:=firstE_cons this
   obtain ⟨h3,this⟩:=firstE_cons this
   exact ⟨withE_zero h1,withE_zero h2,whenE_zero h3 (by decide)⟩
  refine ⟨hc.1,by omega,fun i hi=>(hs i hi).1,fun i hi=>(hs i hi).2.1,?_,fun i hi=>?_⟩
  ·have:=(hs 0 hc.1).2.2
   unfold vrO at this
   simpa using this
  ·have:=(hs (i+1) hi).2.2
   unfold vrO at this
   simpa using this
def prcN (l:List Vr) (d:Int) (i:Nat):Nat→Int
 |0=>d
 |k+1=>if (l.getD k Vr0).fr≤i then (l.getD k Vr0).pr else prcN l d i k
def prcL (l:List Vr) (d:Int) (n k:Nat):List Int:=rng n fun i=>prcN l d i k
theorem prcL_len (l:List Vr) (d:Int) (n k:Nat):(prcL l d n k).length=n:=rng_len _ _
theorem prcN_zero (l:List Vr) (n:Nat):prcL l 0 n 0=List.replicate n 0:=by
 unfold prcL rng prcN
 apply List.ext_getElem<;>simp
def prcM (l:List Vr) (n k j:Nat):List Int:=rng n fun i=>if i < j then prcN l 0 i (k+1) else prcN l 0 i k
theorem prcM_len (l:List Vr) (n k j:Nat):(prcM l n k j).length=n:=rng_len _ _
theorem prcM_zero {l:List Vr} {n k j:Nat} (h:(j:Int)≤(l.getD k Vr0).fr):prcM l n k j=prcL l 0 n k:=by
 unfold prcM prcL rng
 refine List.map_congr_left fun i hi=>?_
 split
 ·rename_i h1;show (if _ then _ else _)=_;rw [if_neg (by omega)]
 ·rfl
theorem prcM_all {l:List Vr} {n k j:Nat} (h:n≤j):prcM l n k j=prcL l 0 n (k+1):=by
 unfold prcM prcL rng
 refine List.map_congr_left fun i hi=>?_
 rw [if_pos (by have:=List.mem_range.1 hi;omega)]
theorem prcM_set {l:List Vr} {n k j:Nat} (h:(l.getD k Vr0).fr≤j) (hj:j < n):(prcM l n k j).set j (l.getD k Vr0).pr=prcM l n k (j+1):=by
 apply List.ext_getElem
 ·rw [List.length_set,prcM_len,prcM_len]
 ·intro i h1 h2
  rw [prcM_len] at h2
  have e1:∀ q,(prcM l n k q)[i]?=some (if i < q then prcN l 0 i (k+1) else prcN l 0 i k):=fun q=>by unfold prcM rng;rw [List.getElem?_map,List.getElem?_range h2];rfl
  have e2:(prcM l n k j)[i]'(by rw [prcM_len];exact h2)=if i < j then prcN l 0 i (k+1) else prcN l 0 i k:=List.getElem_eq_iff _ |>.2 (e1 j)
  have e3:(prcM l n k (j+1))[i]'(by rw [prcM_len];exact h2)=if i < j+1 then prcN l 0 i (k+1) else prcN l 0 i k:=List.getElem_eq_iff _ |>.2 (e1 (j+1))
  rw [List.getElem_set,e2,e3]
  split
  ·rename_i e;subst e;rw [if_pos (by omega)];show _=if _ then _ else _;rw [if_pos h]
  ·rename_i e
   by_cases hij:i < j
   ·rw [if_pos hij,if_pos (by omega)]
   ·rw [if_neg hij,if_neg (by omega)]
def rstN (u p:List Int) (r:Int):Nat→Int
 |0=>r
 |i+1=>(u.getD i 0 * p.getD i 0+rstN u p r i) % 1000
def dueN (u p:List Int) (r:Int) (i:Nat):Int:=u.getD i 0 * p.getD i 0+rstN u p r i
def payL (u p:List Int) (r:Int) (i:Nat):List Int:=rng i fun k=>dueN u p r k / 1000
theorem payL_len (u p:List Int) (r:Int) (i:Nat):(payL u p r i).length=i:=rng_len _ _
theorem payL_succ (u p:List Int) (r:Int) (i:Nat):payL u p r (i+1)=payL u p r i++[dueN u p r i / 1000]:=rng_succ _ _
def stlE (u p:List Int) (r:Int):Int:=firstE [chkUn u,whenE (decide ((p.length:Int)≠u.length)) 2,firstE (p.map prE),withE r 0 999]
structure OkSt (u p:List Int) (r:Int):Prop where
 n0:0 < u.length
 n1:u.length≤24
 n:p.length=u.length
 u:∀ x ∈ u,0≤x∧x≤1000000
 p:∀ x ∈ p,OkP x
 r0:0≤r
 r1:r≤999
theorem stlE_ok {u p:List Int} {r:Int} (h:stlE u p r=0):OkSt u p r:=by
 unfold stlE at h
 obtain ⟨h1,h⟩:=firstE_cons h
 obtain ⟨h2,h⟩:=firstE_cons h
 obtain ⟨h3,h⟩:=firstE_cons h
 obtain ⟨h4,h⟩:=firstE_cons h
 have a1:=chkUn_ok h1
 have a2:=of_decide_eq_false (whenE_zero h2 (by decide))
 have a4:=withE_zero h4
 exact ⟨a1.1,a1.2.1,by omega,a1.2.2,fun x hx=>withE_zero (firstE_all h3 x hx),a4.1,a4.2⟩
theorem rstN_bd {u p:List Int} {r:Int} (h:OkSt u p r):∀ i,0≤rstN u p r i∧rstN u p r i≤999
 |0=>⟨h.r0,h.r1⟩
 |i+1=>by unfold rstN;omega
theorem up_bd {x y:Int} (hx:0≤x∧x≤1000000) (hy:OkP y) : -100000000000≤x * y∧x * y≤100000000000:=by
 obtain ⟨y0,y1⟩:=hy
 have:=mul_bd (a:=x) (b:=y) (A:=1000000) (B:=100000) (by omega) (by omega) (by omega) (by omega)
 omega
theorem OkSt.at {u p:List Int} {r:Int} (h:OkSt u p r) {i:Nat} (hi:i < u.length) : -100000000000≤u.getD i 0 * p.getD i 0∧u.getD i 0 * p.getD i 0≤100000000000 :=
 up_bd (h.u _ (getD_in 0 hi)) (h.p _ (getD_in 0 (by rw [h.n];exact hi)))
theorem paid_eq (n:Int):(if Int.tmod n 1000 < 0 then Int.tmod n 1000+1000 else Int.tmod n 1000)=n % 1000:=by
 have:=Int.emod_emod_of_dvd n (Int.dvd_refl 1000)
 rw [Int.tmod_eq_emod]
 split<;>split<;>simp_all<;>omega
theorem paid_div (n:Int):Int.tdiv (n - n % 1000) 1000=n / 1000:=by
 have h:n - n % 1000=1000 * (n / 1000):=by omega
 rw [h,Int.mul_tdiv_cancel_left _ (by decide)]
end Sh

namespace Sh
open Go Go.Proofs
theorem vrL_drop (l:List Vr) (i:Nat) (h:i < l.length):firstE ((vrL l).drop i)=if vrE l i≠0 then vrE l i else firstE ((vrL l).drop (i+1)):=by
 have hd:=firstE_drop (vrL l) i (by unfold vrL;rw [rng_len];exact h)
 rw [show (vrL l).getD i 0=vrE l i from rng_getD _ _ h] at hd
 exact hd
theorem vrL_end (l:List Vr):firstE ((vrL l).drop l.length)=0:=by rw [List.drop_of_length_le (by unfold vrL;rw [rng_len];exact Nat.le_refl _)];rfl
def lstN (l:List Vr):Nat→Int
 |0 => -1
 |i+1=>(l.getD i Vr0).fr
def vrP (l:List Vr) (i:Nat):Bool:=(decide (i=0) && decide ((l.getD i Vr0).fr≠0)) || decide ((l.getD i Vr0).fr≤lstN l i)
theorem vrE_eq (l:List Vr) (i:Nat):firstE [withE (l.getD i Vr0).fr 0 23,prE (l.getD i Vr0).pr,whenE (vrP l i) 11]=vrE l i:=by
 unfold vrE
 cases i with
 |succ i =>
  have:vrP l (i+1)=vrO l (i+1):=by
   unfold vrP vrO
   rw [show decide (0 < i+1)=true from decide_eq_true (by omega),Bool.true_and];rfl
  rw [this]
 |zero =>
  by_cases h:withE (l.getD 0 Vr0).fr 0 23=0
  ·have a:=withE_zero h
   have:vrP l 0=vrO l 0:=by
    unfold vrP vrO lstN
    rw [decide_eq_false (by omega:¬ (l.getD 0 Vr0).fr ≤ -1)];rfl
   rw [this]
  ·simp only [firstE]
   rw [if_pos h,if_pos h]
theorem vrP_0t {l:List Vr} (h:(l.getD 0 Vr0).fr≠0):firstE [withE (l.getD 0 Vr0).fr 0 23,prE (l.getD 0 Vr0).pr,whenE true 11]=vrE l 0:=by
 rw [← vrE_eq]
 rw [show vrP l 0=true by unfold vrP;rw [decide_eq_true h];rfl]
theorem vrP_0f {l:List Vr} (h:(l.getD 0 Vr0).fr=0):firstE [withE (l.getD 0 Vr0).fr 0 23,prE (l.getD 0 Vr0).pr,whenE (decide ((l.getD 0 Vr0).fr≤lstN l 0)) 11]=vrE l 0:=by
 rw [← vrE_eq]
 rw [show vrP l 0=decide ((l.getD 0 Vr0).fr≤lstN l 0) by unfold vrP;rw [decide_eq_false (show ¬ (l.getD 0 Vr0).fr≠0 from fun e=>e h)];rfl]
theorem vrP_s {l:List Vr} {k:Nat}:firstE [withE (l.getD (k+1) Vr0).fr 0 23,prE (l.getD (k+1) Vr0).pr,whenE (decide ((l.getD (k+1) Vr0).fr≤lstN l (k+1))) 11]=vrE l (k+1):=by
 rw [← vrE_eq]
 rw [show vrP l (k+1)=decide ((l.getD (k+1) Vr0).fr≤lstN l (k+1)) by unfold vrP;rw [decide_eq_false (show ¬ k+1=0 by omega)];rfl]
theorem vrE_free {l:List Vr} (h:(l.getD 0 Vr0).fr=0) (h2:(l.getD 0 Vr0).pr=0):vrE l 0=0:=by
 rw [← vrP_0f h,h,h2];rfl
theorem c_CheckVersions (l:List Vr) (hl:l.length < 1073741824):PC 70 [vrV l] (DV.int .i64 (chkVr l)):=by
 have e0:((l.map encW).length:Int)=l.length:=by simp
 have hc:firstE [whenE (decide ((l.length:Int)=0)) 12,whenE (decide (8 < (l.length:Int))) 5]=countE l.length 8:=rfl
 refine pureCall_ofR dh70 rfl ?_
 conv=>whnf
 repeat' (first
  |(refine ⟨fun hg=>?_,fun hg=>?_⟩<;>first|contradiction|(conv=>whnf))
  |(refine Or.inl ?_;conv=>whnf)
  |(refine ⟨_,c_when ..,?_⟩;conv=>whnf)
  |(refine ⟨_,c_first [_,_] (by simp),?_⟩;conv=>whnf)
  |(refine And.intro ?_ ?_;kernel_rfl;conv=>whnf))
 ·have hg:=of_decide_eq_true hg
  rw [e0,hc] at hg ⊢
  exact int_eq (by rw [chkVr,if_pos hg])
 ·have hg:=of_decide_eq_false hg
  rw [e0,hc] at hg
  have hk:chkVr l=firstE (vrL l):=by rw [chkVr,if_neg hg]
  clear hg
  refine dwp_loopU (P:=Tryz.prog) (G:=GC) (k:=dk70_0) (b:=db70_0) (α:=Nat) (fun i=>[(4,DV.int .i64 (lstN l i)),(23,DV.int .i64 (i))]) (fun _=>[]) (fun i=>i≤l.length∧chkVr l=firstE ((vrL l).drop i)) (fun i=>l.length - i) 0 ⟨Nat.zero_le _,hk⟩ ?_
  conv=>whnf
  refine ⟨rfl,rfl,?_⟩
  conv=>whnf
  refine ⟨rfl,?_⟩
  intro i ⟨h1,h2⟩
  conv=>whnf
  refine ⟨fun hb=>?_,fun hb=>?_⟩
  ·have hi:i < l.length:=by have:=of_decide_eq_true hb;rw [e0] at this;omega
   clear hb
   have hd:=vrL_drop l i hi
   have he:=vrE_eq l i
   rcases i with _|k
   ·conv=>whnf
    rw [getD_enc _ _ (0) Vr0 hi]
    refine ⟨idxA hi rfl,?_⟩
    conv=>whnf
    repeat' (first
     |(refine ⟨fun hg=>?_,fun hg=>?_⟩<;>first|contradiction|(replace hg:=of_decide_eq_true hg;first|(exfalso;omega;done)|(conv=>whnf))|(replace hg:=of_decide_eq_false hg;first|(exfalso;omega;done)|(conv=>whnf))|(skip;conv=>whnf)|(conv=>whnf))
     |(refine Or.inl ?_;conv=>whnf)
     |(refine ⟨_,c_within ..,?_⟩;conv=>whnf)
     |(refine ⟨_,c_checkPrice ..,?_⟩;conv=>whnf)
     |(refine ⟨_,c_when ..,?_⟩;conv=>whnf)
     |(refine ⟨_,c_first [_,_,_] (by simp),?_⟩;conv=>whnf)
     |(refine And.intro ?_ ?_;kernel_rfl;conv=>whnf))
    ·have hg2:(decide ((l.getD 0 Vr0).fr=0) && (decide ((l.getD 0 Vr0).pr=0) && true))=true:=hg
     rw [Bool.and_eq_true,Bool.and_eq_true] at hg2
     have q1:=of_decide_eq_true hg2.1
     have q2:=of_decide_eq_true hg2.2.1
     rw [if_neg (fun h=>h (vrE_free q1 q2))] at hd
     have hl1:lstN l (0+1)=0:=q1
     rw [wrap_succ 0 (by omega)]
     refine ⟨0+1,rfl,?_,rfl,⟨hi,by rw [h2,hd]⟩,by omega⟩
     rw [hl1];rfl
    ·have hg:vrE l 0≠0:=fun h=>hg ((vrP_0f (Classical.not_not.1 ‹¬ (l.getD 0 Vr0).fr≠0›)).trans h)
     rw [if_pos hg] at hd
     exact int_eq ((vrP_0f (Classical.not_not.1 ‹¬ (l.getD 0 Vr0).fr≠0›)).trans (by rw [h2,hd]))
    ·have hg:¬ vrE l 0≠0:=fun h=>hg (fun h3=>h ((vrP_0f (Classical.not_not.1 ‹¬ (l.getD 0 Vr0).fr≠0›)).symm.trans h3))
     rw [if_neg hg] at hd
     rw [wrap_succ 0 (by omega)]
     exact ⟨0+1,rfl,rfl,rfl,⟨hi,by rw [h2,hd]⟩,by omega⟩
    ·have hg:vrE l 0≠0:=fun h=>hg ((vrP_0t ‹(l.getD 0 Vr0).fr≠0›).trans h)
     rw [if_pos hg] at hd
     exact int_eq ((vrP_0t ‹(l.getD 0 Vr0).fr≠0›).trans (by rw [h2,hd]))
    ·have hg:¬ vrE l 0≠0:=fun h=>hg (fun h3=>h ((vrP_0t ‹(l.getD 0 Vr0).fr≠0›).symm.trans h3))
     rw [if_neg hg] at hd
     rw [wrap_succ 0 (by omega)]
     exact ⟨0+1,rfl,rfl,rfl,⟨hi,by rw [h2,hd]⟩,by omega⟩
   ·conv=>whnf
    rw [getD_enc _ _ (k+1) Vr0 hi]
    refine ⟨idxA hi rfl,?_⟩
    conv=>whnf
    repeat' (first
     |(refine ⟨fun hg=>?_,fun hg=>?_⟩<;>first|contradiction|(replace hg:=of_decide_eq_true hg;first|(exfalso;omega;done)|(conv=>whnf))|(replace hg:=of_decide_eq_false hg;first|(exfalso;omega;done)|(conv=>whnf))|(skip;conv=>whnf)|(conv=>whnf))
     |(refine Or.inl ?_;conv=>whnf)
     |(refine ⟨_,c_within ..,?_⟩;conv=>whnf)
     |(refine ⟨_,c_checkPrice ..,?_⟩;conv=>whnf)
     |(refine ⟨_,c_when ..,?_⟩;conv=>whnf)
     |(refine ⟨_,c_first [_,_,_] (by simp),?_⟩;conv=>whnf)
     |(refine And.intro ?_ ?_;kernel_rfl;conv=>whnf))
    ·have hg:vrE l (k+1)≠0:=fun h=>hg (vrP_s.trans h)
     rw [if_pos hg] at hd
     exact int_eq (vrP_s.trans (by rw [h2,hd]))
    ·have hg:¬ vrE l (k+1)≠0:=fun h=>hg (fun h3=>h (vrP_s.symm.trans h3))
     rw [if_neg hg] at hd
     rw [wrap_succ (k+1) (by omega)]
     exact ⟨(k+1)+1,rfl,rfl,rfl,⟨hi,by rw [h2,hd]⟩,by omega⟩
  ·have hi:i=l.length:=by have:=of_decide_eq_false hb;rw [e0] at this;omega
   clear hb
   conv=>whnf
   exact int_eq (by rw [h2,hi,vrL_end])
end Sh

namespace Sh
open Go Go.Proofs
def prsE (l:List Vr) (s:Int):Int:=firstE [chkVr l,withE s 1 24]
def prsS (l:List Vr) (s:Int):List Int×Int:=if prsE l s≠0 then ([],prsE l s) else (prcL l 0 s.toNat l.length,0)
theorem prsE_ok {l:List Vr} {s:Int} (h:prsE l s=0):OkVr l∧1≤s∧s≤24:=by
 unfold prsE at h
 obtain ⟨h1,h⟩:=firstE_cons h
 obtain ⟨h2,h⟩:=firstE_cons h
 have:=withE_zero h2
 exact ⟨chkVr_ok h1,this.1,this.2⟩
theorem prcD_set {l:List Vr} {n k j:Nat} (h:(l.getD k Vr0).fr≤j) (hj:j < n):(iD (prcM l n k j)).set j (DV.int .i64 ((l.getD k Vr0).pr))=iD (prcM l n k (j+1)):=by
 rw [← prcM_set h hj]
 unfold iD
 rw [List.map_set]
theorem c_Prices (l:List Vr) (s:Int) (hl:l.length < 1073741824):PC 61 [vrV l,DV.int .i64 (s)] (.tuple [iL (prsS l s).1,DV.int .i64 ((prsS l s).2)]):=by
 have e0:((l.map encW).length:Int)=l.length:=by simp
 refine pureCall_ofR dh61 rfl ?_
 conv=>whnf
 repeat' (first
  |(refine ⟨fun hg=>?_,fun hg=>?_⟩<;>first|contradiction|(conv=>whnf))
  |(refine Or.inl ?_;conv=>whnf)
  |(refine ⟨_,c_CheckVersions l hl,?_⟩;conv=>whnf)
  |(refine ⟨_,c_checkSlots ..,?_⟩;conv=>whnf)
  |(refine ⟨_,c_first [_,_] (by simp),?_⟩;conv=>whnf)
  |(refine And.intro ?_ ?_;kernel_rfl;conv=>whnf))
 ·have hg:prsE l s≠0:=of_decide_eq_true hg
  rw [prsS,if_pos hg];rfl
 ·have hg:¬ prsE l s≠0:=of_decide_eq_false hg
  obtain ⟨hok,s0,s1⟩:=prsE_ok (Classical.not_not.1 hg)
  have hv:prsS l s=(prcL l 0 s.toNat l.length,0):=by rw [prsS,if_neg hg]
  rw [hv]
  clear hg hv
  obtain ⟨N,rfl⟩:=Int.eq_ofNat_of_zero_le (show 0≤s by omega)
  rw [Int.toNat_natCast]
  refine ⟨⟨by omega,by omega,by omega,rfl,rfl⟩,?_⟩
  have hz:iD (prcL l 0 N 0)=List.replicate N (DV.int .i64 (0)):=by rw [prcN_zero];unfold iD;rw [List.map_replicate]
  rw [← hz]
  conv=>whnf
  refine dwp_loopU (P:=Tryz.prog) (G:=GC) (k:=dk61_1) (b:=db61_1) (α:=Nat) (fun k=>[(24,DV.int .i64 (k))]) (fun k=>[(21,.row 1 (iD (prcL l 0 N k)) false)]) (fun k=>k≤l.length) (fun k=>l.length - k) 0 (Nat.zero_le _) ?_
  conv=>whnf
  refine ⟨rfl,rfl,?_⟩
  conv=>whnf
  refine ⟨rfl,?_⟩
  intro k h1
  conv=>whnf
  refine ⟨fun hc=>?_,fun hc=>?_⟩
  ·have hk:k < l.length:=by have:=of_decide_eq_true hc;rw [e0] at this;omega
   clear hc
   have hfr:=hok.fr k hk
   obtain ⟨f,hf⟩:=Int.eq_ofNat_of_zero_le hfr.1
   have hst:=prcM_zero (l:=l) (n:=N) (k:=k) (j:=f) (by omega)
   have hen:=fun j h=>prcM_all (l:=l) (n:=N) (k:=k) (j:=j) h
   have hset:=fun j h hj=>prcD_set (l:=l) (n:=N) (k:=k) (j:=j) h hj
   have hln:=fun j=>prcM_len l N k j
   rw [← hst]
   generalize hx:l.getD k Vr0=x at *
   conv=>whnf
   rw [getD_enc _ _ k Vr0 hk,hx]
   refine ⟨idxA hk rfl,?_⟩
   conv=>whnf
   rw [show x.fr=(f:Int) from hf] at hset ⊢
   refine dwp_loopU (P:=Tryz.prog) (G:=GC) (k:=dk61_0) (b:=db61_0) (α:=Nat) (fun j=>[(10,DV.int .i64 (j))]) (fun j=>[(9,.box 2 (.agg [DV.int .i64 (f),DV.int .i64 (x.pr)])),(21,.row 1 (iD (prcM l N k j)) false)]) (fun j=>f≤j) (fun j=>N - j) f (Nat.le_refl _) ?_
   conv=>whnf
   refine ⟨rfl,rfl,?_⟩
   conv=>whnf
   refine ⟨rfl,?_⟩
   intro j h4
   have hjl:(iD (prcM l N k j)).length=N:=by rw [iD_len,hln]
   conv=>whnf
   refine ⟨fun hc=>?_,fun hc=>?_⟩
   ·have hj:j < N:=by have:=of_decide_eq_true hc;omega
    clear hc
    have hset:=hset j (by omega) hj
    conv=>whnf
    refine ⟨⟨hjl.symm,by omega,by omega⟩,?_⟩
    conv=>whnf
    refine ⟨⟨hjl.symm,by decide,rfl⟩,?_⟩
    rw [show 0+Int.toNat ((j:Nat):Int)=j by omega]
    conv=>whnf
    rw [wrap_succ j (by omega)]
    refine ⟨j+1,rfl,rfl,?_,by omega,by omega⟩
    rw [← hset];rfl
   ·have hj:N≤j:=by have:=of_decide_eq_false hc;omega
    clear hc
    conv=>whnf
    rw [hen j hj,wrap_succ k (by omega)]
    exact ⟨k+1,rfl,rfl,rfl,hk,by omega⟩
  ·have hk:k=l.length:=by have:=of_decide_eq_false hc;rw [e0] at this;omega
   clear hc
   subst hk
   conv=>whnf
   have hpl:(iD (prcL l 0 N l.length)).length=N:=by rw [iD_len,prcL_len]
   refine ⟨hpl.symm,?_⟩
   have:=window_full (iD (prcL l 0 N l.length))
   rw [hpl] at this
   rw [this];rfl
end Sh

namespace Go.Proofs
open Go.Shelf Go.RowKit
def Tryz.laysM171_ren:Go.Shelf.Ren:=⟨fun|171=>152|243=>169|246=>178|283=>185|284=>186|285=>187|286=>188|129=>195|317=>194|318=>196|319=>197|320=>198|337=>200|338=>201|n=>n,fun|3=>3|9=>9|2=>2|4=>4|171=>236|0=>0|53=>223|37=>209|5=>5|173=>239|212=>242|51=>220|20=>20|213=>243|46=>203|232=>251|233=>252|n=>n,fun|17=>3|18=>6|19=>7|n=>n⟩
theorem Tryz.laysM171:Go.Proofs.LaysM.n171 Tryz.prog Tryz.laysM171_ren:={
 mixed:=by kernel_rfl
 f129:=Tryz.func195.trans (congrArg some (by kernel_rfl))
 f171:=Tryz.func152.trans (congrArg some (by kernel_rfl))
 f243:=Tryz.func169.trans (congrArg some (by kernel_rfl))
 f246:=Tryz.func178.trans (congrArg some (by kernel_rfl))
 f283:=Tryz.func185.trans (congrArg some (by kernel_rfl))
 f284:=Tryz.func186.trans (congrArg some (by kernel_rfl))
 f285:=Tryz.func187.trans (congrArg some (by kernel_rfl))
 f286:=Tryz.func188.trans (congrArg some (by kernel_rfl))
 f317:=Tryz.func194.trans (congrArg some (by kernel_rfl))
 f318:=Tryz.func196.trans (congrArg some (by kernel_rfl))
 f319:=Tryz.func197.trans (congrArg some (by kernel_rfl))
 f320:=Tryz.func198.trans (congrArg some (by kernel_rfl))
 f337:=Tryz.func200.trans (congrArg some (by kernel_rfl))
 f338:=Tryz.func201.trans (congrArg some (by kernel_rfl))
 t0:=Tryz.underlying0
 a0:=Tryz.isAgg0
 z0:=Tryz.sizeOf0
 v0:=Tryz.zeroValue0
 t2:=Tryz.underlying2
 a2:=Tryz.isAgg2
 z2:=Tryz.sizeOf2
 v2:=Tryz.zeroValue2
 t3:=Tryz.underlying3
 a3:=Tryz.isAgg3
 z3:=Tryz.sizeOf3
 v3:=Tryz.zeroValue3
 t4:=Tryz.underlying4
 a4:=Tryz.isAgg4
 z4:=Tryz.sizeOf4
 v4:=Tryz.zeroValue4
 t5:=Tryz.underlying5
 a5:=Tryz.isAgg5
 z5:=Tryz.sizeOf5
 v5:=Tryz.zeroValue5
 t9:=Tryz.underlying9
 a9:=Tryz.isAgg9
 z9:=Tryz.sizeOf9
 v9:=Tryz.zeroValue9
 t20:=Tryz.underlying20
 a20:=Tryz.isAgg20
 z20:=Tryz.sizeOf20
 v20:=Tryz.zeroValue20
 t37:=Tryz.underlying209
 a37:=Tryz.isAgg209
 z37:=Tryz.sizeOf209
 v37:=Tryz.zeroValue209
 t46:=Tryz.underlying203
 a46:=Tryz.isAgg203
 z46:=Tryz.sizeOf203
 v46:=Tryz.zeroValue203
 t51:=Tryz.underlying220
 a51:=Tryz.isAgg220
 z51:=Tryz.sizeOf220
 v51:=Tryz.zeroValue220
 t53:=Tryz.underlying223
 a53:=Tryz.isAgg223
 z53:=Tryz.sizeOf223
 v53:=Tryz.zeroValue223
 t171:=Tryz.underlying236
 a171:=Tryz.isAgg236
 z171:=Tryz.sizeOf236
 v171:=Tryz.zeroValue236
 t173:=Tryz.underlying239
 a173:=Tryz.isAgg239
 z173:=Tryz.sizeOf239
 v173:=Tryz.zeroValue239
 t212:=Tryz.underlying242
 a212:=Tryz.isAgg242
 z212:=Tryz.sizeOf242
 v212:=Tryz.zeroValue242
 t213:=Tryz.underlying243
 a213:=Tryz.isAgg243
 z213:=Tryz.sizeOf243
 t232:=Tryz.underlying251
 a232:=Tryz.isAgg251
 z232:=Tryz.sizeOf251
 v232:=Tryz.zeroValue251
 t233:=Tryz.underlying252
 a233:=Tryz.isAgg252
 z233:=Tryz.sizeOf252
 v233:=Tryz.zeroValue252
 g17:=by kernel_rfl
 g18:=by kernel_rfl
 g19:=by kernel_rfl
 i0:=by kernel_rfl
 i2:=by kernel_rfl
 i3:=by kernel_rfl
 i4:=by kernel_rfl
 i5:=by kernel_rfl
 i9:=by kernel_rfl
 i20:=by kernel_rfl
 i37:=by kernel_rfl
 i46:=by kernel_rfl
 i51:=by kernel_rfl
 i53:=by kernel_rfl
 i171:=by kernel_rfl
 i173:=by kernel_rfl
 i212:=by kernel_rfl
 i232:=by kernel_rfl
 i233:=by kernel_rfl
 m17:=by kernel_rfl
 m18:=by kernel_rfl
 m19:=by kernel_rfl }
def Tryz.lays156_ren:Go.Shelf.Ren:=⟨fun|156=>125|165=>148|166=>149|169=>150|240=>167|241=>168|276=>176|277=>177|n=>n,fun|31=>125|9=>9|3=>3|4=>4|0=>0|20=>20|72=>211|76=>215|70=>208|37=>209|75=>214|127=>226|164=>230|5=>5|80=>181|n=>n,fun|n=>n⟩
theorem Tryz.lays156:Go.Proofs.Lays.n156 Tryz.prog Tryz.lays156_ren:={
 mixed:=by kernel_rfl
 f156:=Tryz.func125.trans (congrArg some (by kernel_rfl))
 f165:=Tryz.func148.trans (congrArg some (by kernel_rfl))
 f166:=Tryz.func149.trans (congrArg some (by kernel_rfl))
 f169:=Tryz.func150.trans (congrArg some (by kernel_rfl))
 f240:=Tryz.func167.trans (congrArg some (by kernel_rfl))
 f241:=Tryz.func168.trans (congrArg some (by kernel_rfl))
 f276:=Tryz.func176.trans (congrArg some (by kernel_rfl))
 f277:=Tryz.func177.trans (congrArg some (by kernel_rfl))
 t0:=Tryz.underlying0
 a0:=Tryz.isAgg0
 z0:=Tryz.sizeOf0
 v0:=Tryz.zeroValue0
 t3:=Tryz.underlying3
 a3:=Tryz.isAgg3
 z3:=Tryz.sizeOf3
 v3:=Tryz.zeroValue3
 t4:=Tryz.underlying4
 a4:=Tryz.isAgg4
 z4:=Tryz.sizeOf4
 v4:=Tryz.zeroValue4
 t9:=Tryz.underlying9
 a9:=Tryz.isAgg9
 z9:=Tryz.sizeOf9
 v9:=Tryz.zeroValue9
 t20:=Tryz.underlying20
 a20:=Tryz.isAgg20
 z20:=Tryz.sizeOf20
 v20:=Tryz.zeroValue20
 t31:=Tryz.underlying125
 a31:=Tryz.isAgg125
 z31:=Tryz.sizeOf125
 v31:=Tryz.zeroValue125
 t37:=Tryz.underlying209
 a37:=Tryz.isAgg209
 z37:=Tryz.sizeOf209
 v37:=Tryz.zeroValue209
 t70:=Tryz.underlying208
 a70:=Tryz.isAgg208
 z70:=Tryz.sizeOf208
 v70:=Tryz.zeroValue208
 t72:=Tryz.underlying211
 a72:=Tryz.isAgg211
 z72:=Tryz.sizeOf211
 v72:=Tryz.zeroValue211
 t75:=Tryz.underlying214
 a75:=Tryz.isAgg214
 z75:=Tryz.sizeOf214
 v75:=Tryz.zeroValue214
 t76:=Tryz.underlying215
 a76:=Tryz.isAgg215
 z76:=Tryz.sizeOf215
 v76:=Tryz.zeroValue215
 t127:=Tryz.underlying226
 a127:=Tryz.isAgg226
 z127:=Tryz.sizeOf226
 v127:=Tryz.zeroValue226
 t164:=Tryz.underlying230
 a164:=Tryz.isAgg230
 z164:=Tryz.sizeOf230
 v164:=Tryz.zeroValue230 }
def Tryz.lays104_ren:Go.Shelf.Ren:=⟨fun|104=>129|211=>155|207=>171|n=>n,fun|9=>9|4=>4|24=>185|3=>3|n=>n,fun|n=>n⟩
theorem Tryz.lays104:Go.Proofs.Lays.n104 Tryz.prog Tryz.lays104_ren:={
 mixed:=by kernel_rfl
 f104:=Tryz.func129.trans (congrArg some (by kernel_rfl))
 f207:=Tryz.func171.trans (congrArg some (by kernel_rfl))
 f211:=Tryz.func155.trans (congrArg some (by kernel_rfl))
 t3:=Tryz.underlying3
 a3:=Tryz.isAgg3
 z3:=Tryz.sizeOf3
 v3:=Tryz.zeroValue3
 t4:=Tryz.underlying4
 a4:=Tryz.isAgg4
 z4:=Tryz.sizeOf4
 v4:=Tryz.zeroValue4
 t9:=Tryz.underlying9
 a9:=Tryz.isAgg9
 z9:=Tryz.sizeOf9
 v9:=Tryz.zeroValue9
 t24:=Tryz.underlying185
 a24:=Tryz.isAgg185
 z24:=Tryz.sizeOf185
 v24:=Tryz.zeroValue185 }
def Tryz.lays137_ren:Go.Shelf.Ren:=⟨fun|137=>154|217=>170|266=>179|n=>n,fun|9=>9|5=>5|3=>3|n=>n,fun|n=>n⟩
theorem Tryz.lays137:Go.Proofs.Lays.n137 Tryz.prog Tryz.lays137_ren:={
 mixed:=by kernel_rfl
 f137:=Tryz.func154.trans (congrArg some (by kernel_rfl))
 f217:=Tryz.func170.trans (congrArg some (by kernel_rfl))
 f266:=Tryz.func179.trans (congrArg some (by kernel_rfl))
 t3:=Tryz.underlying3
 a3:=Tryz.isAgg3
 z3:=Tryz.sizeOf3
 v3:=Tryz.zeroValue3
 t5:=Tryz.underlying5
 a5:=Tryz.isAgg5
 z5:=Tryz.sizeOf5
 v5:=Tryz.zeroValue5
 t9:=Tryz.underlying9
 a9:=Tryz.isAgg9
 z9:=Tryz.sizeOf9
 v9:=Tryz.zeroValue9 }
def Tryz.lays146_ren:Go.Shelf.Ren:=⟨fun|146=>130|221=>156|268=>172|138=>173|143=>174|195=>180|197=>181|218=>182|219=>183|260=>189|217=>170|225=>190|224=>191|267=>192|266=>179|314=>199|n=>n,fun|9=>9|31=>125|3=>3|4=>4|0=>0|105=>234|21=>21|5=>5|46=>203|119=>245|139=>248|138=>247|146=>221|51=>220|n=>n,fun|1=>2|3=>4|4=>5|n=>n⟩
theorem Tryz.lays146:Go.Proofs.Lays.n146 Tryz.prog Tryz.lays146_ren:={
 mixed:=by kernel_rfl
 f138:=Tryz.func173.trans (congrArg some (by kernel_rfl))
 f143:=Tryz.func174.trans (congrArg some (by kernel_rfl))
 f146:=Tryz.func130.trans (congrArg some (by kernel_rfl))
 f195:=Tryz.func180.trans (congrArg some (by kernel_rfl))
 f197:=Tryz.func181.trans (congrArg some (by kernel_rfl))
 f217:=Tryz.func170.trans (congrArg some (by kernel_rfl))
 f218:=Tryz.func182.trans (congrArg some (by kernel_rfl))
 f219:=Tryz.func183.trans (congrArg some (by kernel_rfl))
 f221:=Tryz.func156.trans (congrArg some (by kernel_rfl))
 f224:=Tryz.func191.trans (congrArg some (by kernel_rfl))
 f225:=Tryz.func190.trans (congrArg some (by kernel_rfl))
 f260:=Tryz.func189.trans (congrArg some (by kernel_rfl))
 f266:=Tryz.func179.trans (congrArg some (by kernel_rfl))
 f267:=Tryz.func192.trans (congrArg some (by kernel_rfl))
 f268:=Tryz.func172.trans (congrArg some (by kernel_rfl))
 f314:=Tryz.func199.trans (congrArg some (by kernel_rfl))
 t0:=Tryz.underlying0
 a0:=Tryz.isAgg0
 z0:=Tryz.sizeOf0
 v0:=Tryz.zeroValue0
 t3:=Tryz.underlying3
 a3:=Tryz.isAgg3
 z3:=Tryz.sizeOf3
 v3:=Tryz.zeroValue3
 t4:=Tryz.underlying4
 a4:=Tryz.isAgg4
 z4:=Tryz.sizeOf4
 v4:=Tryz.zeroValue4
 t5:=Tryz.underlying5
 a5:=Tryz.isAgg5
 z5:=Tryz.sizeOf5
 v5:=Tryz.zeroValue5
 t9:=Tryz.underlying9
 a9:=Tryz.isAgg9
 z9:=Tryz.sizeOf9
 v9:=Tryz.zeroValue9
 t21:=Tryz.underlying21
 a21:=Tryz.isAgg21
 z21:=Tryz.sizeOf21
 v21:=Tryz.zeroValue21
 t31:=Tryz.underlying125
 a31:=Tryz.isAgg125
 z31:=Tryz.sizeOf125
 v31:=Tryz.zeroValue125
 t46:=Tryz.underlying203
 a46:=Tryz.isAgg203
 z46:=Tryz.sizeOf203
 v46:=Tryz.zeroValue203
 t51:=Tryz.underlying220
 a51:=Tryz.isAgg220
 z51:=Tryz.sizeOf220
 v51:=Tryz.zeroValue220
 t105:=Tryz.underlying234
 a105:=Tryz.isAgg234
 z105:=Tryz.sizeOf234
 v105:=Tryz.zeroValue234
 t119:=Tryz.underlying245
 a119:=Tryz.isAgg245
 z119:=Tryz.sizeOf245
 t138:=Tryz.underlying247
 a138:=Tryz.isAgg247
 z138:=Tryz.sizeOf247
 v138:=Tryz.zeroValue247
 t139:=Tryz.underlying248
 a139:=Tryz.isAgg248
 z139:=Tryz.sizeOf248
 v139:=Tryz.zeroValue248
 t146:=Tryz.underlying221
 a146:=Tryz.isAgg221
 z146:=Tryz.sizeOf221
 v146:=Tryz.zeroValue221
 g1:=by kernel_rfl
 g3:=by kernel_rfl
 g4:=by kernel_rfl }
def Tryz.lays103_ren:Go.Shelf.Ren:=⟨fun|103=>175|210=>184|206=>193|n=>n,fun|9=>9|4=>4|24=>185|3=>3|n=>n,fun|n=>n⟩
theorem Tryz.lays103:Go.Proofs.Lays.n103 Tryz.prog Tryz.lays103_ren:={
 mixed:=by kernel_rfl
 f103:=Tryz.func175.trans (congrArg some (by kernel_rfl))
 f206:=Tryz.func193.trans (congrArg some (by kernel_rfl))
 f210:=Tryz.func184.trans (congrArg some (by kernel_rfl))
 t3:=Tryz.underlying3
 a3:=Tryz.isAgg3
 z3:=Tryz.sizeOf3
 v3:=Tryz.zeroValue3
 t4:=Tryz.underlying4
 a4:=Tryz.isAgg4
 z4:=Tryz.sizeOf4
 v4:=Tryz.zeroValue4
 t9:=Tryz.underlying9
 a9:=Tryz.isAgg9
 z9:=Tryz.sizeOf9
 v9:=Tryz.zeroValue9
 t24:=Tryz.underlying185
 a24:=Tryz.isAgg185
 z24:=Tryz.sizeOf185
 v24:=Tryz.zeroValue185 }
theorem Tryz.calls_Itoa (n:Int) (h0 : -9223372036854775808≤n) (h1:n≤9223372036854775807) (w:World) (htab:Lib.TabIs Tryz.prog w "internal/strconv.uint64pow10" .u64 Lib.pow10Tab) :
  Calls Tryz.prog 152 #[.int .i64 n] w fun e w'=>e=.returned (.string ⟨(Lib.itoa n).toArray⟩)∧∃ k os,w'=Go.Sort.grow (w.drewN k) os:=Any.strconv_Itoa Tryz.laysM171 n h0 h1 w htab
theorem Tryz.enters_Itoa:Sh.Enters Tryz.prog 152:=enters_of Tryz.laysM171.f171 (by kernel_rfl) rfl
theorem Tryz.extra:Builder.Extra Tryz.prog Tryz.lays156_ren:={
 sizeBuilder:=by kernel_rfl
 liesBuilder:=by kernel_rfl
 t5:=Tryz.underlying5
 a5:=Tryz.isAgg5
 z5:=Tryz.sizeOf5
 v5:=Tryz.zeroValue5
 infoByte:=by kernel_rfl
 cellsByte:=by kernel_rfl
 sizeByte:=by kernel_rfl
 neB5:=by decide }
theorem Tryz.enters_Join:Sh.Enters Tryz.prog 125:=enters_of Tryz.lays156.f156 (by kernel_rfl) rfl
theorem Tryz.calls_Join (bk o c:Nat) (xs:List ByteArray) (sep:ByteArray) (w:World) (hcells:∀ (j:Nat) x,xs[j]?=some x→w.cell? ⟨bk,o+j,none⟩=some (.string x))
  (hbk:bk < w.heap.size) (hN:xs.length≤140737488355328) (hcap:xs.length≤c) (hlen:(Lib.join (xs.map (·.data.toList)) sep.data.toList).length≤140737488355328) :
  Calls Tryz.prog 125 #[.slice (some ⟨bk,o,none⟩) xs.length c,.string sep] w fun e w'=>e=.returned (.string ⟨(Lib.join (xs.map (·.data.toList)) sep.data.toList).toArray⟩)∧Below w.heap.size w w' :=
 Any.strings_Join Tryz.lays156 Tryz.extra bk o c xs sep w hcells hbk hN hcap hlen
theorem Tryz.calls_Join0 (a:Option Addr) (c:Nat) (sep:ByteArray) (w:World):Calls Tryz.prog 125 #[.slice a 0 c,.string sep] w fun e w'=>e=.returned (.string ⟨#[]⟩)∧w'=w :=
 Any.strings_Join_none Tryz.lays156 Tryz.extra a c sep w
theorem Tryz.enters_CutSuffix:Sh.Enters Tryz.prog 129:=enters_of Tryz.lays104.f104 (by kernel_rfl) rfl
theorem Tryz.enters_CutPrefix:Sh.Enters Tryz.prog 175:=enters_of Tryz.lays103.f103 (by kernel_rfl) rfl
theorem Tryz.enters_IndexByte:Sh.Enters Tryz.prog 154:=enters_of Tryz.lays137.f137 (by kernel_rfl) rfl
theorem Tryz.enters_Split:Sh.Enters Tryz.prog 130:=enters_of Tryz.lays146.f146 (by kernel_rfl) rfl
end Go.Proofs
namespace Sh
open Go Go.Proofs
def strs (l:List (List UInt8)):DV:=.list (l.map DV.str)
theorem s_Itoa (n:Int) (h0 : -9223372036854775808≤n) (h1:n≤9223372036854775807):PC 152 [DV.int .i64 (n)] (.str (Lib.itoa n)):=by
 refine pure_of_calls Tryz.enters_Itoa (fun M w vs hG hT hM hr=>?_)
 have hv:vs=#[.int .i64 n]:=by
  obtain ⟨r1,r2⟩:=hr
  have r3:=r2 0 (by simp)
  apply Array.ext
  ·simpa using r1.symm
  ·intro i i1 i2
   have:i=0:=by simp at i2;omega
   subst this
   have e:vs.getD 0 Go.undef=vs[0]:=by simp [Array.getD_eq_getD_getElem?,i1]
   rw [e] at r3
   generalize vs[0]=x at r3
   cases r3
   rfl
 subst hv
 refine (Tryz.calls_Itoa n h0 h1 w (tabIs_of (g:=3) (by kernel_rfl) rfl (by decide) hG hT hM)).mono ?_
 rintro e w' ⟨rfl,k,os,rfl⟩
 exact after_flat hM (Lib.below_grow _ w (Nat.le_refl _) k os) (.str _)
theorem flat_strs (l:List (List UInt8)):flat (l.map DV.str)=l.map DV.str:=by
 induction l with
 |nil=>rfl
 |cons a r ih=>rw [List.map_cons,show DV.str a :: r.map DV.str=[DV.str a]++r.map DV.str from rfl,flat_append,ih];rfl
theorem s_Join (l:List (List UInt8)) (sep:List UInt8) (hl:l.length≤140737488355328) (hj:(Lib.join l sep).length≤140737488355328):PC 125 [.list (l.map DV.str),.str sep] (.str (Lib.join l sep)):=by
 refine pure_of_calls Tryz.enters_Join (fun M w vs hG hT hM hr=>?_)
 obtain ⟨r1,r2⟩:=hr
 obtain ⟨x,y,rfl⟩:∃ x y,vs=#[x,y]:=by
  refine ⟨vs[0]'(by simp at r1;omega),vs[1]'(by simp at r1;omega),?_⟩
  apply Array.ext
  ·simpa using r1.symm
  ·intro i i1 i2
   have:i=0∨i=1:=by simp at i2;omega
   rcases this with rfl|rfl<;>rfl
 have hx:RelP M (.list (l.map DV.str)) x:=r2 0 (by simp)
 have hy:RelP M (.str sep) y:=r2 1 (by simp)
 cases hy
 cases hx with
 |list _ a cap sz b o g hcap ha hsz hMm hrr =>
  rw [flat_strs] at hMm hrr
  rw [List.length_map] at hcap ⊢
  rcases ha with ha|rfl
  ·have:l=[]:=by simpa using ha
   subst this
   refine (Tryz.calls_Join0 a cap _ w).mono ?_
   rintro e w' ⟨rfl,rfl⟩
   exact after_flat hM (RowKit.Below.refl _ _) (.str _)
  ·by_cases h0:l=[]
   ·subst h0
    refine (Tryz.calls_Join0 _ cap _ w).mono ?_
    rintro e w' ⟨rfl,rfl⟩
    exact after_flat hM (RowKit.Below.refl _ _) (.str _)
   have hp:0 < l.length:=List.length_pos_iff.2 h0
   have hcell:∀ j,j < l.length→w.cell? ⟨b,o+j,none⟩=some (.string ⟨(l.getD j []).toArray⟩):=fun j hj=>by
    have q1:=hM _ _ _ (hMm j (by simpa using hj))
    have q2:=hrr j (by simpa using hj)
    have q3:(l.map DV.str).getD j .undef=.str (l.getD j []):=by simp [List.getD_eq_getElem?_getD,hj]
    rw [q3] at q2
    have q6:∀ s v,RelP M (.str s) v→v=.string ⟨s.toArray⟩:=fun s v h=>by cases h;rfl
    rw [q1,q6 _ _ q2]
   have hb:b < w.heap.size:=World.block_lt_of_cell? (a:=⟨b,o+0,none⟩) _ (hcell 0 hp)
   have e1:((l.map fun s=>(⟨s.toArray⟩:ByteArray)).map (·.data.toList))=l:=by simp [Function.comp_def]
   have h1:=Tryz.calls_Join b o cap (l.map fun s=>⟨s.toArray⟩) ⟨sep.toArray⟩ w (fun j x hx=>?_) hb (by simpa using hl) (by simpa using hcap) (by rw [e1];simpa using hj)
   ·rw [e1,List.length_map] at h1
    refine h1.mono ?_
    rintro e w' ⟨rfl,hw⟩
    exact after_flat hM hw (.str _)
   ·have hj2:j < l.length:=by have:=(List.getElem?_eq_some_iff.1 hx).1;simpa using this
    rw [hcell j hj2]
    simp [hj2] at hx
    rw [← hx];simp [List.getD_eq_getElem?_getD,hj2]
theorem relPs_two {M:Mem} {a b:DV} {vs:Array Value} (h:RelPs M [a,b] vs):∃ x y,vs=#[x,y]∧RelP M a x∧RelP M b y:=by
 obtain ⟨r1,r2⟩:=h
 simp only [List.length_cons,List.length_nil] at r1
 refine ⟨vs.getD 0 Go.undef,vs.getD 1 Go.undef,?_,r2 0 (by simp),r2 1 (by simp)⟩
 apply Array.ext
 ·simpa using r1.symm
 ·intro i i1 i2
  have:i=0∨i=1:=by simp at i2;omega
  rcases this with rfl|rfl<;>simp [Array.getD_eq_getD_getElem?,i1]
theorem relP_str {M:Mem} {s:List UInt8} {v:Value} (h:RelP M (.str s) v):v=.string ⟨s.toArray⟩:=by cases h;rfl
theorem relP_int {M:Mem} {k:IntKind} {n:Int} {v:Value} (h:RelP M (.int k n) v):v=.int k n:=by cases h;rfl
theorem s_CutSuffix (s p:List UInt8) (hs:s.length≤1073741824):PC 129 [.str s,.str p] (.tuple [.str (Lib.trimSuffix s p),.bool (Lib.hasSuffix s p)]):=by
 refine pure_of_calls Tryz.enters_CutSuffix (fun M w vs hG hT hM hr=>?_)
 obtain ⟨x,y,rfl,h1,h2⟩:=relPs_two hr
 rw [relP_str h1,relP_str h2]
 refine Calls.mono (Any.strings_CutSuffix Tryz.lays104 ⟨s.toArray⟩ ⟨p.toArray⟩ w (by show s.toArray.size≤_;simp;omega)) ?_
 rintro e w' ⟨rfl,rfl⟩
 refine after_flat hM (RowKit.Below.refl _ _) (.tuple _ _ rfl (fun i hi=>?_))
 have hi:i < 2:=hi
 have:i=0∨i=1:=by omega
 rcases this with rfl|rfl
 ·exact .str _
 ·exact .bool _
theorem s_CutPrefix (s p:List UInt8) (hs:s.length≤1073741824):PC 175 [.str s,.str p] (.tuple [.str (Lib.trimPrefix s p),.bool (Lib.hasPrefix s p)]):=by
 refine pure_of_calls Tryz.enters_CutPrefix (fun M w vs hG hT hM hr=>?_)
 obtain ⟨x,y,rfl,h1,h2⟩:=relPs_two hr
 rw [relP_str h1,relP_str h2]
 refine Calls.mono (Any.strings_CutPrefix Tryz.lays103 ⟨s.toArray⟩ ⟨p.toArray⟩ w) ?_
 rintro e w' ⟨rfl,rfl⟩
 refine after_flat hM (RowKit.Below.refl _ _) (.tuple _ _ rfl (fun i hi=>?_))
 have hi:i < 2:=hi
 have:i=0∨i=1:=by omega
 rcases this with rfl|rfl
 ·exact .str _
 ·exact .bool _
theorem s_IndexByte (s:List UInt8) (c:UInt8):PC 154 [.str s,.int .u8 (c.toNat)] (DV.int .i64 (Lib.indexByte s c)):=by
 refine pure_of_calls Tryz.enters_IndexByte (fun M w vs hG hT hM hr=>?_)
 obtain ⟨x,y,rfl,h1,h2⟩:=relPs_two hr
 rw [relP_str h1,relP_int h2]
 refine Calls.mono (Any.strings_IndexByte Tryz.lays137 ⟨s.toArray⟩ (c.toNat:Int) w) ?_
 rintro e w' ⟨rfl,rfl⟩
 have ec:((c.toNat:Int)).toNat.toUInt8=c:=by simp
 rw [ec]
 exact after_flat hM (RowKit.Below.refl _ _) (.int _ _)
theorem splitK_C (c:UInt8):∀ s:List UInt8,Lib.splitK [c] 0 (Lib.count s [c]) s=splitC c s
 |[]=>by rw [Lib.count_one];rfl
 |b :: l=>by
  have ih:=splitK_C c l
  have hp:∀ k (s:List UInt8),Lib.splitK [c] 0 (k+1) s=if Lib.index s [c] == -1 then [s] else s.take ((Lib.index s [c]).toNat+0) :: Lib.splitK [c] 0 k (s.drop ((Lib.index s [c]).toNat+[c].length)):=fun k s=>rfl
  by_cases h:b=c
  ·subst h
   rw [Lib.count_cons_eq,Nat.add_comm,hp]
   have hix:Lib.index (b :: l) [b]=0:=by rw [Lib.index];simp [List.isPrefixOf]
   rw [hix,splitC,if_pos rfl,← ih]
   rfl
  ·rw [Lib.count_cons_ne b c l h,splitC,if_neg h,← ih]
   have hpre:([c]:List UInt8).isPrefixOf (b :: l)=false:=by simp [List.isPrefixOf,Ne.symm h]
   have hix:Lib.index (b :: l) [c]=if Lib.index l [c] == -1 then -1 else Lib.index l [c]+1:=by rw [Lib.index,hpre];simp
   by_cases hm:Lib.index l [c] = -1
   ·rw [Lib.count_miss hm];rfl
   ·have hge:=Lib.index_ge l [c]
    obtain ⟨i,hi⟩:∃ i:Nat,Lib.index l [c]=i:=⟨(Lib.index l [c]).toNat,by omega⟩
    rw [Lib.count_hit (by simp) hi,Nat.add_comm,hp,hp,hix,hi]
    have hn1:((i:Int) == -1)=false:=beq_eq_false_iff_ne.2 (by omega)
    have hn2:((i:Int)+1 == -1)=false:=beq_eq_false_iff_ne.2 (by omega)
    simp only [hn1,hn2,Bool.false_eq_true,if_false,Int.toNat_natCast,show ((i:Int)+1).toNat=i+1 by omega,Nat.add_zero,List.take_succ_cons,glue,List.singleton_append,List.length_cons,List.length_nil]
    rfl
theorem s_Split (s:List UInt8) (c:UInt8) (hs:s.length≤1073741824):PC 130 [.str s,.str [c]] (strs (splitC c s)):=by
 refine pure_of_calls Tryz.enters_Split (fun M w vs hG hT hM hr=>?_)
 obtain ⟨x,y,rfl,h1,h2⟩:=relPs_two hr
 rw [relP_str h1,relP_str h2]
 obtain ⟨m,hm⟩:=(hT 2 _ rfl).2 rfl
 refine Calls.mono (Any.strings_Split Tryz.lays146 (by kernel_rfl) ⟨s.toArray⟩ ⟨#[c]⟩ m w (by show s.toArray.size < _;simp;omega) hm (Nat.le_refl 1)) ?_
 have hd:=Lib.splitB_data ⟨#[c]⟩ 0 (Lib.countB ⟨s.toArray⟩ ⟨#[c]⟩) ⟨s.toArray⟩
 have hd:(Lib.splitB ⟨#[c]⟩ 0 (Lib.countB ⟨s.toArray⟩ ⟨#[c]⟩) ⟨s.toArray⟩).map (·.data.toList)=splitC c s:=by
  rw [hd];exact splitK_C c s
 have hl:=Lib.splitB_all ⟨#[c]⟩ (Nat.le_refl 1) 0 _ ⟨s.toArray⟩ rfl
 generalize Lib.splitB ⟨#[c]⟩ 0 (Lib.countB ⟨s.toArray⟩ ⟨#[c]⟩) ⟨s.toArray⟩=L at *
 rw [← hl,← hd]
 clear hd hl
 rintro e w' ⟨rfl,rfl⟩
 have hold:∀ b o v,M b o=some v→b≠w.heap.size:=fun b o v e e2=>by
  have h1:b < w.heap.size:=World.block_lt_of_cell? (a:=⟨b,o,none⟩) _ (hM b o v e)
  omega
 have hnew:(w.alloc (.cells (L.map Value.string).toArray (Tryz.lays146_ren.t 9))).heap[w.heap.size]?=some (.cells (L.map Value.string).toArray (Tryz.lays146_ren.t 9)):=World.alloc_heap_new w _
 refine ⟨_,fun b o=>if b=w.heap.size then (L.map Value.string).toArray[o]? else M b o,rfl,fun b o v e=>?_,fun b o v e=>?_,?_,(RowKit.Below.refl _ _).alloc (Nat.le_refl _) _,fun b o v e e0=>?_⟩
 ·show (if b=w.heap.size then _ else _)=_
  rw [if_neg (hold b o v e)];exact e
 ·by_cases hb:b=w.heap.size
  ·subst hb
   have e:(if w.heap.size=w.heap.size then (L.map Value.string).toArray[o]? else M w.heap.size o)=some v:=e
   rw [if_pos rfl] at e
   rw [cell_of_heap hnew];exact e
  ·have e:(if b=w.heap.size then (L.map Value.string).toArray[o]? else M b o)=some v:=e
   rw [if_neg hb] at e
   have h1:=hM b o v e
   rw [World.cell?_alloc_old _ _ _ hb];exact h1
 ·have hlen:((L.map (·.data.toList)).map DV.str).length=L.length:=by simp
  have hfl:flat ((L.map (·.data.toList)).map DV.str)=(L.map (·.data.toList)).map DV.str:=by
   exact flat_strs _
  have hget:∀ i,i < L.length→((L.map (·.data.toList)).map DV.str).getD i .undef=.str (L.getD i ByteArray.empty).data.toList:=fun i hi=>by simp [List.getD_eq_getElem?_getD,hi]
  have:=RelP.list (M:=fun b o=>if b=w.heap.size then (L.map Value.string).toArray[o]? else M b o) ((L.map (·.data.toList)).map DV.str) (some ⟨w.heap.size,0,none⟩) L.length 1 w.heap.size 0 (fun i=>.string (L.getD i ByteArray.empty)) (by rw [hlen];exact Nat.le_refl _) (.inr rfl) (fun e he=>by
    obtain ⟨x,_,rfl⟩:=List.mem_map.1 he;rfl) (fun i hi=>by
    rw [hfl,hlen] at hi
    show (if w.heap.size=w.heap.size then _ else _)=_
    rw [if_pos rfl];simp [List.getD_eq_getElem?_getD,hi]) (fun i hi=>by
    rw [hfl,hlen] at hi
    rw [hfl,hget i hi]
    have e:=RelP.str (M:=fun b o=>if b=w.heap.size then (L.map Value.string).toArray[o]? else M b o) (L.getD i ByteArray.empty).data.toList
    simpa using e)
  rw [hlen] at this
  exact this
 ·by_cases hb:b=w.heap.size
  ·omega
  ·have e:(if b=w.heap.size then (L.map Value.string).toArray[o]? else M b o)=some v:=e
   rw [if_neg hb,e0] at e;cases e
end Sh

namespace Sh
open Go Go.Proofs
theorem all_take {α:Type} (p:α→Bool) (l:List α) (i:Nat) (d:α) (hi:i < l.length) (h:(l.take i).all p=true) (h2:p (l.getD i d)=true):(l.take (i+1)).all p=true:=by
 rw [take_snoc l i d hi,List.all_append,h,List.all_cons,h2];rfl
end Sh
