/- Texts, part 2. -/
import Derived.Test.YtooecmiihjampaaGreatTopOrderM1
import Derived.Test.YtooecmiihjampaaGreatProg
import Derived.Shelf.Small.Strs
import Derived.Shelf.Small.Wraps
import Derived.Shelf.Utf8.RuneCount
import Derived.Shelf.Strings.Shaped
import Derived.Shelf.Strings.Split
import Derived.Shelf.Strings.RuneCount
import Derived.Shelf.SlSortCmp.NoneTotal
import Derived.Lib.AppendZerosOnto
import Derived.Lib.Overlaps
set_option linter.unusedVariables false
set_option linter.unusedSimpArgs false
set_option maxRecDepth 20000
set_option maxHeartbeats 8000000
set_option linter.defProp false
open Go.Proofs Go.RowKit
noncomputable abbrev _root_.zph:=Go.Proofs.Tryz.prog
section
variable{u w:Go.World}{B B0 H:Go.V.Heap}{e t t' ti tt ty:Go.TypeId}{ag fu:Bool}{sv v:Go.Value}{a b c:ByteArray}{x y:Go.Operand}{by_ d f i j k m n off q s:Nat}{r:ByteArray×ByteArray×ByteArray×Int}{K α:Type}{p:Int}{P:Go.Program}{F:Go.V.Fr}{O:Go.V.Boxes}{ops:Array Go.Oper}{κ:Go.V.Kap}{pos:String}{aft:Array Go.Edge}{g:Option (Nat×Bool)}{fp:Nat->Nat->Prop}{os:List Go.Oper}{zpf:Go.Exit->Go.Act->Go.World->Prop}{ex:Go.V.Exs}{cap cs cur cur' news rest xs:List Go.Value}{o:Go.Oper}{args:Array Go.Operand}{at_:Array Go.TypeId}{C:Nat->Prop}{φ:Go.Value->Go.V.Heap->Prop}{ls ys:List ByteArray}{r1 r2:Go.V.Res}{A Y:Prop}
namespace Go.V
set_option maxRecDepth 100000
def gp{X:Type}(v:X):List Nat->List (Nat×X)->List (Nat×X)
 | [],r=>r
 | t::l,r=>(t,v)::gp v l r
def gq(k o:Nat):List Nat->List ((Nat×Nat)×Nat)->List ((Nat×Nat)×Nat)
 | [],r=>r
 | t::l,r=>((t,k),o)::gq k o l r
def mixed:zph.follows .mixedOrders=true:=J
def ldL:List (Nat×(Bool×Nat)):=gp (false,1) [1,2,3,4,5,6,9,10,11,12,15,16,17,20,21,22,25,30,31,38,40,41,42,43,44,47,48,49,50,58,59,60,61,62,64,65,66,68,70,72,73,74,75,79,80,83,86,87,91,93,95,96,97,98,99,100,101,102,103,104,105,106,107,109,110,112,113,115,116,117,118,121,122,123,124,125,127,128,130,132,133,134,136,137,138,139,140,141,142,143,144,145,146,147,148,150,151,152,153,155,157,159,160,161,162,163,165,167,170,171,172,173,174,175,176,177,178,179,180,181,182,183,184,187,188,189,190,191,192,193,195,196,197,198,199,202,205,206,208,209,210,211,212,214,217,218,220,221,222,228,229,230,231,232,233,234,235,236,237,238,239,242,243,244,246,247,249,250,251,252,253,257,258,259,260,261,262,263,264,265,266,267,268,269,270,271,272,273,274,275,276,277,278,279,280,281,282,283,284,285,286,287,290,294,295,296,297,298,299,300,301,302,303,304,306,307,308,309,310,311,313,314,315,316,317,318,319,320,321,322,323,324,325,326,327,328,329,330,331,332,333,334,335,336,337,338,339,341,343,344,345,346,347,348,349,350,351,352,354,355,356,357,358,359,360,366,367,368,369,370] (gp (true,2) [13,14,26,27,32,33,34,35,51,52,88,168,203,204,215,223,224,240,241,288,289,291,292] (gp (true,4) [7,8,36,37,119,120,225,226,361,362] (gp (true,1) [18,19,23,24,28,29,45,46] (gp (true,3) [53,54,55,89,90,111] (gp (true,6) [56,57,169,185,186,216] (gp (true,7) [76,77,81,82,84,85] (gp (true,0) [114,363,364,365] (gp (true,10) [200,201] (gp (true,9) [255,256] (gp (true,11) [371,372] (gp (true,14) [166] [])))))))))))
def slL:List (Nat×Nat):=gp 88 [22] (gp 111 [25] (gp 57 [41] (gp 5 [43] (gp 77 [74] (gp 54 [101] (gp 82 [151] (gp 48 [153] (gp 186 [183] (gp 289 [222] (gp 37 [243] (gp 9 [259] (gp 3 [262] (gp 215 [333] [])))))))))))))
def stL:List (Nat×Unit):=gp () [9,10,11] []
def foL:List ((Nat×Nat)×Nat):=gq 0 0 [7,8,13,14,18,19,23,24,26,27,28,29,32,33,34,35,36,37,45,46,51,52,53,54,55,56,57,76,77,81,82,84,85,89,90,119,120,168,185,186,200,201,203,204,223,224,225,226,240,241,255,256,288,289,291,292,361,362,371,372] (gq 1 1 [7,8,13,14,26,27,32,33,51,52,84,85,119,120,168,203,204,223,224,225,226,240,241,255,256,288,289,291,292,361,362,371,372] (gq 2 2 [7,8,84,85,119,120,225,226,361,362,371,372] (gq 3 3 [7,8,84,85,119,120,361,362,371,372] (gq 1 2 [36,37,53,54,55,89,90] (gq 1 6 [76,77,81,82,200,201] (gq 1 3 [56,57] (gq 4 6 [84,85] (gq 2 7 [200,201] (gq 3 8 [200,201] (gq 4 9 [200,201] (gq 2 8 [255,256] (gq 4 4 [371,372] (gq 5 5 [371,372] (gq 6 6 [371,372] (gq 7 7 [371,372] (gq 8 8 [371,372] (gq 9 9 [371,372] (gq 10 10 [371,372] []))))))))))))))))))
def zrL:List (Nat×Value):=gp (.nilFunc) [1,30,40,42,44,47,49,50,59,60,61,62,64,65,66,68,70,72,73,75,79,80,83,86,87,91,93,95,96,97,98,99,100,102,103,104,105,106,107,109,110,115,116,117,118,121,122,123,124,125,127,128,130,132,133,134,136,137,138,139,140,141,142,143,144,145,146,148,150,152,155,157,159,160,161,162,163,165,170,171,172,173,174,175,176,177,178,179,180,181,182,184,187,188,189,190,191,192,193,195,196,197,198,199,208,209,210,211,212,214,217,218,220,228,229,230,231,232,233,234,235,236,237,238,242,244,246,247,249,250,251,252,253,257,258,260,261,263,264,265,266,267,268,269,270,271,272,273,274,275,277,278,279,280,281,282,283,284,285,286,287,290,294,295,296,297,298,299,300,301,302,303,306,307,308,309,310,313,314,315,316,317,318,320,321,322,323,324,325,326,327,328,329,330,331,332,335,336,338,339,341,343,344,345,346,347,348,349,350,351,354,355,356,357,358,359,360,368] (gp (.slice none 0 0) [22,25,41,43,74,101,151,153,183,222,243,259,262,333] (gp (.pointer none) [15,16,17,31,58,112,147,167,202,239,276,337,352] (gp (.agg #[.slice none 0 0]) [23,24,28,29,45,46] (gp (.agg #[.string ⟨#[]⟩,.string ⟨#[]⟩,.string ⟨#[]⟩,.string ⟨#[]⟩,.string ⟨#[]⟩,.string ⟨#[]⟩,.bool false]) [76,77,81,82,84,85] (gp (.agg #[.string ⟨#[]⟩,.string ⟨#[]⟩,.string ⟨#[]⟩,.string ⟨#[]⟩,.string ⟨#[]⟩,.string ⟨#[]⟩]) [56,57,185,186,216] (gp (.int .i64 0) [2,3,38,304] (gp (.int .u8 0) [5,6,366,367] (gp (.int .u64 0) [12,48,113,334] (gp (.agg #[.nilFunc,.pointer none]) [32,33,34,35] (gp (.agg #[]) [114,363,364,365] (gp (.string ⟨#[]⟩) [9,10,11] (gp (.nilIface) [20,205,206] (gp (.int .i32 0) [21,369,370] (gp (.agg #[.string ⟨#[]⟩,.string ⟨#[]⟩]) [51,52,215] (gp (.agg #[.string ⟨#[]⟩,.string ⟨#[]⟩,.string ⟨#[]⟩]) [53,54,55] (gp (.agg #[.int .u8 0,.int .u8 0,.int .u8 0]) [89,90,111] (gp (.agg #[.int .i64 0,.int .i64 0,.bool false,.int .u8 0]) [7,8] (gp (.agg #[.string ⟨#[]⟩,.int .u64 0]) [13,14] (gp (.agg #[.pointer none]) [18,19] (gp (.agg #[.slice none 0 0,.slice none 0 0]) [26,27] (gp (.agg #[.nilFunc,.pointer none,.nilFunc,.pointer none]) [36,37] (gp (.agg #[.slice none 0 0,.int .i64 0,.int .i64 0,.int .i64 0]) [119,120] (gp (.agg #[.string ⟨#[]⟩,.string ⟨#[]⟩,.string ⟨#[]⟩,.string ⟨#[]⟩,.string ⟨#[]⟩,.string ⟨#[]⟩,.pointer none,.pointer none,.int .i64 0,.int .i64 0]) [200,201] (gp (.agg #[.pointer none,.slice none 0 0]) [203,204] (gp (.agg #[.slice none 0 0,.int .i64 0]) [223,224] (gp (.agg #[.int .u64 0,.map none,.slice none 0 0,.int .i64 0]) [225,226] (gp (.agg #[.pointer none,.int .i64 0]) [240,241] (gp (.agg #[.slice none 0 0,.string ⟨#[]⟩,.string ⟨#[]⟩,.string ⟨#[]⟩,.string ⟨#[]⟩,.string ⟨#[]⟩,.string ⟨#[]⟩,.bool false,.int .i64 0]) [255,256] (gp (.agg #[.int .u64 0,.int .i64 0]) [288,289] (gp (.agg #[.int .i64 0,.int .i64 0]) [291,292] (gp (.agg #[.pointer none,.pointer none,.pointer none,.string ⟨#[]⟩]) [361,362] (gp (.agg #[.int .u64 0,.int .u64 0,.int .u32 0,.int .u8 0,.int .u8 0,.int .u8 0,.int .u8 0,.nilFunc,.pointer none,.int .i32 0,.int .i32 0]) [371,372] (gp (.bool false) [4] (gp (.agg #[.int .u8 0,.int .u8 0]) [88] (gp (.agg #[.string ⟨#[]⟩,.string ⟨#[]⟩,.string ⟨#[]⟩,.string ⟨#[]⟩,.string ⟨#[]⟩,.string ⟨#[]⟩,.bool false,.string ⟨#[]⟩,.string ⟨#[]⟩,.string ⟨#[]⟩,.string ⟨#[]⟩,.string ⟨#[]⟩,.string ⟨#[]⟩,.bool false]) [166] (gp (.agg #[.pointer none,.string ⟨#[]⟩]) [168] (gp (.agg #[.pointer none,.string ⟨#[]⟩,.pointer none,.string ⟨#[]⟩,.pointer none,.string ⟨#[]⟩]) [169] (gp (.map none) [221] (gp (.int .u32 0) [311] [])))))))))))))))))))))))))))))))))))))))
def fnL:List (Nat×Unit):=gp () [3,4,5,6,7,8,9,10,11,12,13,14,15,16,17,18,19,20,21,22,23,24,25,26,27,28,29,30,31,32,33,34,35,36,37,38,39,40,41,42,43,44,45,46,47,48,49,50,51,52,53,54,55,56,57,58,59,60,61,62,63,64,65,66,67,68,69,70,71,72,73,74,75,76,77,78,79,80,81,82,83,84,85,86,87,88,89,90,91,92,93,94,95,96,97,98,99,100,101,102,103,104,105,106,107,108,109,110,111,112,113,114,115,116,117,118,119,120,122,123,124,125,126,127,128,129,130,131,132,133,134,135,136,137,138,139,140,141,142,143,144,145,146,147,148,149,150,151,152,153,154,155,156,157,158,159,160,161,162,163,164,165,166,167,168,169,171,172,173,174,175,176,177,178,179,180,181,182,183,184,186,187,188,189,190,191,193,194,195,196,197,198,199,200,201,202,203,204,205,206,207,208,209,210,211,212,213,214,215,216,217,218,219,220,221,222,223,224,225,227,228,229,230,231,232,233,238,241,242,244,245,246,247,248,249,250,251,252,253,254,256,257,258,259,260,261,262,263,264,265,266,267,268,271,272,273,274,275,276,277,278,279,280,281,282,283,284,285,286,287,288,289,290,291,292,293,294,295,296] []
def zhc:ldL.all (fun p=>ldI zph p.1 == some p.2)=true:=J
def zgi:slL.all (fun p=>slI zph p.1 == some p.2)=true:=J
def zgf:stL.all (fun p=>stI zph p.1 == some p.2)=true:=J
def zhk:foL.all (fun p=>foI zph p.1 == some p.2)=true:=J
def zft:zrL.map (fun p=>zrI zph p.1)=zrL.map (fun p=>some p.2):=J
def zhl: fnL.all (fun p => match Tryz.prog.funcs[p.1]? with | some fn => fn.body.isSome && fn.name != "runtime.NumGoroutine" | none => false) = true := by kernel_rfl
def L:Tabs zph:=⟨ldL,slL,stL,foL,zrL,fnL,zhc,zgi,zgf,zhk,zft,zhl⟩
def el5:elI zph 5=some (1,1):=J
def zk8:elI zph 37=some (4,32):=J
def zfp:elI zph 48=some (1,8):=J
def zkb:elI zph 54=some (3,48):=J
def zho:elI zph 57=some (6,96):=J
def zig:elI zph 77=some (7,104):=J
def zhp:elI zph 186=some (6,104):=J
def Ht:elI zph 289=some (2,16):=J
def zkx:PL zph 33 [(0,1),(1,1)] [.nilFunc,.pointer none]:=⟨by kernel_rfl,.agg #[.nilFunc,.pointer none],by kernel_rfl,rfl⟩
def zkw:PL zph 35 [(0,2)] [.nilFunc,.pointer none]:=⟨by kernel_rfl,.agg #[.nilFunc,.pointer none],by kernel_rfl,rfl⟩
def zi3:PL zph 37 [(0,2),(2,2)] [.nilFunc,.pointer none,.nilFunc,.pointer none]:=⟨by kernel_rfl,.agg #[.nilFunc,.pointer none,.nilFunc,.pointer none],by kernel_rfl,rfl⟩
def zj4:PL zph 52 [(0,1),(1,1)] [.string ⟨#[]⟩,.string ⟨#[]⟩]:=⟨by kernel_rfl,.agg #[.string ⟨#[]⟩,.string ⟨#[]⟩],by kernel_rfl,rfl⟩
def zj3:PL zph 54 [(0,2),(2,1)] [.string ⟨#[]⟩,.string ⟨#[]⟩,.string ⟨#[]⟩]:=⟨by kernel_rfl,.agg #[.string ⟨#[]⟩,.string ⟨#[]⟩,.string ⟨#[]⟩],by kernel_rfl,rfl⟩
def zkv:PL zph 55 [(0,2),(2,1)] [.string ⟨#[]⟩,.string ⟨#[]⟩,.string ⟨#[]⟩]:=⟨by kernel_rfl,.agg #[.string ⟨#[]⟩,.string ⟨#[]⟩,.string ⟨#[]⟩],by kernel_rfl,rfl⟩
def zj2:PL zph 57 [(0,3),(3,3)] [.string ⟨#[]⟩,.string ⟨#[]⟩,.string ⟨#[]⟩,.string ⟨#[]⟩,.string ⟨#[]⟩,.string ⟨#[]⟩]:=⟨by kernel_rfl,.agg #[.string ⟨#[]⟩,.string ⟨#[]⟩,.string ⟨#[]⟩,.string ⟨#[]⟩,.string ⟨#[]⟩,.string ⟨#[]⟩],by kernel_rfl,rfl⟩
def zj1:PL zph 77 [(0,6),(6,1)] [.string ⟨#[]⟩,.string ⟨#[]⟩,.string ⟨#[]⟩,.string ⟨#[]⟩,.string ⟨#[]⟩,.string ⟨#[]⟩,.bool false]:=⟨by kernel_rfl,.agg #[.string ⟨#[]⟩,.string ⟨#[]⟩,.string ⟨#[]⟩,.string ⟨#[]⟩,.string ⟨#[]⟩,.string ⟨#[]⟩,.bool false],by kernel_rfl,rfl⟩
def zj0:PL zph 82 [(0,6),(6,1)] [.string ⟨#[]⟩,.string ⟨#[]⟩,.string ⟨#[]⟩,.string ⟨#[]⟩,.string ⟨#[]⟩,.string ⟨#[]⟩,.bool false]:=⟨by kernel_rfl,.agg #[.string ⟨#[]⟩,.string ⟨#[]⟩,.string ⟨#[]⟩,.string ⟨#[]⟩,.string ⟨#[]⟩,.string ⟨#[]⟩,.bool false],by kernel_rfl,rfl⟩
def zgs:PL zph 114 [] []:=⟨by kernel_rfl,.agg #[],by kernel_rfl,rfl⟩
def zi8:PL zph 120 [(0,1),(1,1),(2,1),(3,1)] [.slice none 0 0,.int .i64 0,.int .i64 0,.int .i64 0]:=⟨by kernel_rfl,.agg #[.slice none 0 0,.int .i64 0,.int .i64 0,.int .i64 0],by kernel_rfl,rfl⟩
def zgr:PL zph 186 [(0,6),(6,0)] [.string ⟨#[]⟩,.string ⟨#[]⟩,.string ⟨#[]⟩,.string ⟨#[]⟩,.string ⟨#[]⟩,.string ⟨#[]⟩]:=⟨by kernel_rfl,.agg #[.string ⟨#[]⟩,.string ⟨#[]⟩,.string ⟨#[]⟩,.string ⟨#[]⟩,.string ⟨#[]⟩,.string ⟨#[]⟩],by kernel_rfl,rfl⟩
def zi7:PL zph 201 [(0,6),(6,1),(7,1),(8,1),(9,1)] [.string ⟨#[]⟩,.string ⟨#[]⟩,.string ⟨#[]⟩,.string ⟨#[]⟩,.string ⟨#[]⟩,.string ⟨#[]⟩,.pointer none,.pointer none,.int .i64 0,.int .i64 0]:=⟨by kernel_rfl,.agg #[.string ⟨#[]⟩,.string ⟨#[]⟩,.string ⟨#[]⟩,.string ⟨#[]⟩,.string ⟨#[]⟩,.string ⟨#[]⟩,.pointer none,.pointer none,.int .i64 0,.int .i64 0],by kernel_rfl,rfl⟩
def zi6:PL zph 224 [(0,1),(1,1)] [.slice none 0 0,.int .i64 0]:=⟨by kernel_rfl,.agg #[.slice none 0 0,.int .i64 0],by kernel_rfl,rfl⟩
def zgq:PL zph 226 [(0,1),(1,1),(2,2)] [.int .u64 0,.map none,.slice none 0 0,.int .i64 0]:=⟨by kernel_rfl,.agg #[.int .u64 0,.map none,.slice none 0 0,.int .i64 0],by kernel_rfl,rfl⟩
def zi5:PL zph 241 [(0,1),(1,1)] [.pointer none,.int .i64 0]:=⟨by kernel_rfl,.agg #[.pointer none,.int .i64 0],by kernel_rfl,rfl⟩
def zgp:PL zph 289 [(0,1),(1,1)] [.int .u64 0,.int .i64 0]:=⟨by kernel_rfl,.agg #[.int .u64 0,.int .i64 0],by kernel_rfl,rfl⟩
def zi4:PL zph 292 [(0,1),(1,1)] [.int .i64 0,.int .i64 0]:=⟨by kernel_rfl,.agg #[.int .i64 0,.int .i64 0],by kernel_rfl,rfl⟩
def bt4:zph.underlying 4=some .bool:=J
def zkz:nkI zph 30=some 3:=J
def zjf:nkI zph 31=some 0:=J
def zj7:nkI zph 41=some 1:=J
def zj6:nkI zph 43=some 1:=J
def zhn:EqT zph 54 [0,0,0]:=⟨by kernel_rfl,by kernel_rfl,by kernel_rfl⟩
def zk6:EqT zph 55 [0,0,0]:=⟨by kernel_rfl,by kernel_rfl,by kernel_rfl⟩
def zjl:EqT zph 57 [0,0,0,0,0,0]:=⟨by kernel_rfl,by kernel_rfl,by kernel_rfl⟩
def zky:nkI zph 58=some 0:=J
def zj5:nkI zph 74=some 1:=J
def zd9:nkI zph 112=some 0:=J
def zg2:nkI zph 147=some 0:=J
def zg1:nkI zph 202=some 0:=J
def zg0:nkI zph 222=some 1:=J
def zjm:EqT zph 289 [1,1]:=⟨by kernel_rfl,by kernel_rfl,by kernel_rfl⟩
def eg:(zph.underlying 3).isSome=true/\ikI zph 48=some .u64:=⟨by kernel_rfl,by kernel_rfl⟩
def jr:(zph.underlying 3).isSome=true/\ikI zph 113=some .u64:=⟨by kernel_rfl,by kernel_rfl⟩
def U7:(zph.underlying 3).isSome=true/\ikI zph 334=some .u64:=⟨by kernel_rfl,by kernel_rfl⟩
def zay:(zph.underlying 5).isSome=true/\ikI zph 3=some .i64:=⟨by kernel_rfl,by kernel_rfl⟩
def ef:(zph.underlying 5).isSome=true/\ikI zph 48=some .u64:=⟨by kernel_rfl,by kernel_rfl⟩
def Of:(zph.underlying 48).isSome=true/\ikI zph 5=some .u8:=⟨by kernel_rfl,by kernel_rfl⟩
def js:(zph.underlying 113).isSome=true/\ikI zph 3=some .i64:=⟨by kernel_rfl,by kernel_rfl⟩
def zke:arI zph 88=some (2,5):=J
end Go.V
section
open Go.V
attribute [local irreducible] Has N Par Ret RetL Src StepOK V VO X
namespace Go.V
structure _root_.Wr(B:Prop):Prop where
 h:B
def _root_.Za(t:Wr Y->A:=by intro h;refine z7 (ze Z Z Z) Z ?_;exact h.1)(h:Y):A:=t ⟨h⟩
def _root_.Zv(t:Wr Y->A:=by intro h;refine z7 (zi Z Z Z) Z ?_;exact h.1)(h:Y):A:=t ⟨h⟩
def _root_.Zf(t:Wr Y->A:=by intro h;refine zj ?_;exact h.1)(h:Y):A:=t ⟨h⟩
def _root_.Zc6(t:Wr Y->A:=by intro h;refine zm ?_;exact h.1)(h:Y):A:=t ⟨h⟩
def _root_.ZN(t:Wr Y->A:=by intro h;refine zk ?_;exact h.1)(h:Y):A:=t ⟨h⟩
def _root_.Zab(t:Wr Y->A:=by intro h;refine z7 (qt Z Z Z Z (nf T)) Z ?_;exact h.1)(h:Y):A:=t ⟨h⟩
def _root_.Zee(t:Wr Y->A:=by intro h;refine zw Z ?_;exact h.1)(h:Y):A:=t ⟨h⟩
def _root_.ZeN(t:Wr Y->A:=by intro h;refine zh (id:=0) ?_;exact h.1)(h:Y):A:=t ⟨h⟩
def _root_.Z3(t:Wr Y->A:=by intro h;refine zh (id:=1) ?_;exact h.1)(h:Y):A:=t ⟨h⟩
def _root_.ZeO(t:Wr Y->A:=by intro h;refine z7 (zt Z (zn Z) Z) Z ?_;exact h.1)(h:Y):A:=t ⟨h⟩
def _root_.Zer(t:Wr Y->A:=by intro h;refine ql Z ?_;exact h.1)(h:Y):A:=t ⟨h⟩
def _root_.Zac(t:Wr Y->A:=by intro h;refine z7 (qt Z Z Z Z (ng T)) Z ?_;exact h.1)(h:Y):A:=t ⟨h⟩
def _root_.Zbj(t:Wr Y->A:=by intro h;refine qe ?_;exact h.1)(h:Y):A:=t ⟨h⟩
def _root_.Zl(t:Wr Y->A:=by intro h;refine z7 (qq Z Z Z Z) Z ?_;exact h.1)(h:Y):A:=t ⟨h⟩
def _root_.ZaE(t:Wr Y->A:=by intro h;refine z7 (y6 Z Z Z Z (yy T T)) Z ?_;exact h.1)(h:Y):A:=t ⟨h⟩
def _root_.Zx(t:Wr Y->A:=by intro h;refine zh (id:=2) ?_;exact h.1)(h:Y):A:=t ⟨h⟩
def _root_.ZI(t:Wr Y->A:=by intro h;refine zh (id:=3) ?_;exact h.1)(h:Y):A:=t ⟨h⟩
def _root_.ZS(t:Wr Y->A:=by intro h;refine zh (id:=4) ?_;exact h.1)(h:Y):A:=t ⟨h⟩
def _root_.Zak(t:Wr Y->A:=by intro h;refine qm ?_;exact h.1)(h:Y):A:=t ⟨h⟩
def _root_.ZJ(t:Wr Y->A:=by intro h;refine z7 (yu Z Z Z Z (ng T)) Z ?_;exact h.1)(h:Y):A:=t ⟨h⟩
def _root_.ZO(t:Wr Y->A:=by intro h;refine z7 (yu Z Z Z Z (nf T)) Z ?_;exact h.1)(h:Y):A:=t ⟨h⟩
def _root_.Zaw(t:Wr Y->A:=by intro h;refine zh (id:=6) ?_;exact h.1)(h:Y):A:=t ⟨h⟩
def _root_.ZK(t:Wr Y->A:=by intro h;refine zh (id:=7) ?_;exact h.1)(h:Y):A:=t ⟨h⟩
def _root_.ZE(t:Wr Y->A:=by intro h;refine zh (id:=5) ?_;exact h.1)(h:Y):A:=t ⟨h⟩
def _root_.ZdD(t:Wr Y->A:=by intro h;refine ya ?_;exact h.1)(h:Y):A:=t ⟨h⟩
def _root_.Zat(t:Wr Y->A:=by intro h;refine zh (id:=9) ?_;exact h.1)(h:Y):A:=t ⟨h⟩
def _root_.Zao(t:Wr Y->A:=by intro h;refine yc ?_;exact h.1)(h:Y):A:=t ⟨h⟩
def _root_.ZC(t:Wr Y->A:=by intro h;refine zh (id:=8) ?_;exact h.1)(h:Y):A:=t ⟨h⟩
def _root_.Zef(t:Wr Y->A:=by intro h;refine zh3 ?_;exact h.1)(h:Y):A:=t ⟨h⟩
def _root_.Zfn(t:Wr Y->A:=by intro h;refine yx ?_;exact h.1)(h:Y):A:=t ⟨h⟩
def _root_.Zc7(t:Wr Y->A:=by intro h;refine z7 (Tb L Z Z Z Z Z M) Z ?_;exact h.1)(h:Y):A:=t ⟨h⟩
def _root_.Zc8(t:Wr Y->A:=by intro h;refine z7 (zd4 L Z Z Z Z) Z ?_;exact h.1)(h:Y):A:=t ⟨h⟩
def _root_.Zs(t:Wr Y->A:=by exact fun h=>(ZN∘Zc6) h.1)(h:Y):A:=t ⟨h⟩
def _root_.Zc(t:Wr Y->A:=by exact fun h=>(Zv∘Zs) h.1)(h:Y):A:=t ⟨h⟩
def _root_.Zd(t:Wr Y->A:=by exact fun h=>(Zc∘Zf) h.1)(h:Y):A:=t ⟨h⟩
def _root_.Zb(t:Wr Y->A:=by exact fun h=>(Za∘Za) h.1)(h:Y):A:=t ⟨h⟩
def _root_.Zbk(t:Wr Y->A:=by exact fun h=>(Zc6∘Zf) h.1)(h:Y):A:=t ⟨h⟩
def _root_.Zg(t:Wr Y->A:=by exact fun h=>(Zs∘Zf) h.1)(h:Y):A:=t ⟨h⟩
def _root_.ZB(t:Wr Y->A:=by exact fun h=>(Zf∘ZeN) h.1)(h:Y):A:=t ⟨h⟩
def _root_.Zal(t:Wr Y->A:=by exact fun h=>(Zbj∘Zbk) h.1)(h:Y):A:=t ⟨h⟩
def _root_.ZZ(t:Wr Y->A:=by exact fun h=>(Zs∘Zee) h.1)(h:Y):A:=t ⟨h⟩
def _root_.ZD(t:Wr Y->A:=by exact fun h=>(Zs∘Zer) h.1)(h:Y):A:=t ⟨h⟩
def _root_.Zi(t:Wr Y->A:=by exact fun h=>(Zd∘Zf) h.1)(h:Y):A:=t ⟨h⟩
def _root_.Z6(t:Wr Y->A:=by exact fun h=>(Zak∘Zf) h.1)(h:Y):A:=t ⟨h⟩
def _root_.Zn(t:Wr Y->A:=by exact fun h=>(ZZ∘Zal) h.1)(h:Y):A:=t ⟨h⟩
def _root_.Zu(t:Wr Y->A:=by exact fun h=>(ZD∘Zf) h.1)(h:Y):A:=t ⟨h⟩
def _root_.ZcZ(t:Wr Y->A:=by exact fun h=>(ZdD∘Zfn) h.1)(h:Y):A:=t ⟨h⟩
def _root_.ZdE(t:Wr Y->A:=by exact fun h=>(Zef∘ZdD) h.1)(h:Y):A:=t ⟨h⟩
def _root_.Zah(t:Wr Y->A:=by exact fun h=>(Zi∘Z3) h.1)(h:Y):A:=t ⟨h⟩
def _root_.Zbl(t:Wr Y->A:=by exact fun h=>(Zal∘Z6) h.1)(h:Y):A:=t ⟨h⟩
def _root_.Zax(t:Wr Y->A:=by exact fun h=>(ZdE∘ZcZ) h.1)(h:Y):A:=t ⟨h⟩
def _root_.Zp(t:Wr Y->A:=by exact fun h=>(ZI∘Za) h.1)(h:Y):A:=t ⟨h⟩
def _root_.Zbb(t:Wr Y->A:=by exact fun h=>(ZeO∘ZeO) h.1)(h:Y):A:=t ⟨h⟩
def _root_.ZP(t:Wr Y->A:=by exact fun h=>(Zao∘Zc6) h.1)(h:Y):A:=t ⟨h⟩
def _root_.Zfd(t:Wr Y->A:=by exact fun h=>(Zg∘Zer) h.1)(h:Y):A:=t ⟨h⟩
def _root_.Zfo(t:Wr Y->A:=by exact fun h=>(Zab∘Zfd) h.1)(h:Y):A:=t ⟨h⟩
def _root_.Zz(t:Wr Y->A:=by exact fun h=>(Zfo∘Zbl) h.1)(h:Y):A:=t ⟨h⟩
def _root_.ZT(t:Wr Y->A:=by exact fun h=>(ZE∘Za) h.1)(h:Y):A:=t ⟨h⟩
def _root_.Z4(t:Wr Y->A:=by exact fun h=>(Zn∘Zf) h.1)(h:Y):A:=t ⟨h⟩
def _root_.ZaD(t:Wr Y->A:=by exact fun h=>(Zax∘Zbk) h.1)(h:Y):A:=t ⟨h⟩
def _root_.ZaK(t:Wr Y->A:=by exact fun h=>(Zah∘Za) h.1)(h:Y):A:=t ⟨h⟩
def _root_.ZF(t:Wr Y->A:=by exact fun h=>(Zb∘Za) h.1)(h:Y):A:=t ⟨h⟩
def _root_.ZaF(t:Wr Y->A:=by exact fun h=>(Za∘Zbb) h.1)(h:Y):A:=t ⟨h⟩
def _root_.Zck(t:Wr Y->A:=by exact fun h=>(Za∘ZN) h.1)(h:Y):A:=t ⟨h⟩
def _root_.Zad(t:Wr Y->A:=by exact fun h=>(ZZ∘Zbj) h.1)(h:Y):A:=t ⟨h⟩
def _root_.ZcK(t:Wr Y->A:=by exact fun h=>(Zs∘Zak) h.1)(h:Y):A:=t ⟨h⟩
def _root_.Zfe(t:Wr Y->A:=by exact fun h=>(Zg∘Zee) h.1)(h:Y):A:=t ⟨h⟩
def _root_.Zff(t:Wr Y->A:=by exact fun h=>(Zac∘Zfe) h.1)(h:Y):A:=t ⟨h⟩
def _root_.ZaN(t:Wr Y->A:=by exact fun h=>(ZB∘ZaK) h.1)(h:Y):A:=t ⟨h⟩
def _root_.ZaO(t:Wr Y->A:=by exact fun h=>(Zff∘ZaD) h.1)(h:Y):A:=t ⟨h⟩
def _root_.Zdh(t:Wr Y->A:=by exact fun h=>(ZeO∘Zl) h.1)(h:Y):A:=t ⟨h⟩
def _root_.Zbc(t:Wr Y->A:=by exact fun h=>(ZaE∘Zck) h.1)(h:Y):A:=t ⟨h⟩
def _root_.Zbm(t:Wr Y->A:=by exact fun h=>(Zf∘ZS) h.1)(h:Y):A:=t ⟨h⟩
def _root_.Zbt(t:Wr Y->A:=by exact fun h=>(Za∘ZcK) h.1)(h:Y):A:=t ⟨h⟩
def _root_.ZbG(t:Wr Y->A:=by exact fun h=>(Zaw∘Zb) h.1)(h:Y):A:=t ⟨h⟩
def _root_.ZbS(t:Wr Y->A:=by exact fun h=>(Zl∘Zu) h.1)(h:Y):A:=t ⟨h⟩
def _root_.ZbT(t:Wr Y->A:=by exact fun h=>(ZaF∘Zdh) h.1)(h:Y):A:=t ⟨h⟩
def check_ret(s:ByteArray)(hs:s.size<=9223372036854775807)(hB:zpg B w):
  Ret zph 126 [.string s] w B (fun v _=>v=.int .i64 (chk s)):=by
 refine yh Tryz.func126 Z Tryz.ntmps126 (np Z) hB ?_;by_cases h1:1<=s.size
 ·by_cases h2:s.size<=16
  ·refine(ZaN∘Zc8∘Zac∘Zb∘Zc8∘ZJ∘Zl∘Z4∘Zp∘Zc8∘Zbt) ?_
   refine xm (fun k:Nat=>[(0,.is (.string s)),(13,.is (.int .i64 s.size)),(14,.is (.int .i64 k))])
    (fun k=>k<=s.size/\(s.data.toList.take k).all okB=true) (fun k=>s.size-k) 0 ⟨mf _,by simp⟩ ⟨rfl,rfl,rfl,nm⟩ ?_
   rintro k ⟨hk,hall⟩;by_cases hlt:k<s.size
   ·obtain⟨c,hc⟩:=getElem?_lt hlt;have hu:=ziq c;by_cases a1:(c.toNat:Int)<97
    ·by_cases a2:(c.toNat:Int)<48
     ·refine(Zbm∘Zz∘ZT∘Zd∘ZbG∘Zc7∘Zab∘ZaF∘Zbb∘Zl∘ZF∘Zc7∘Zab∘ZaF∘Zbb∘Zl∘ZbS∘ZK∘Zc) ?_;refine yg1 L [.tmp 2] fun u H hH hle=>?_;exact nh _ (Vp hc (zje a1 a2)).symm
     ·by_cases a3:57<(c.toNat:Int)
      ·refine(Zbm∘Zz∘ZT∘Zd∘ZbG∘Zc7∘Zab∘ZaF∘Zbb∘Zl∘ZF∘Zc7∘Zac∘ZF∘Zc7∘ZO∘Zl∘ZbS∘ZK∘Zc) ?_;refine yg1 L [.tmp 2] fun u H hH hle=>?_;exact nh _ (Vp hc (zjd a1 a3)).symm
      ·refine(Zbm∘Zz∘ZT∘Zd∘ZbG∘Zc7∘Zab∘ZaF∘Zbb∘Zl∘ZF∘Zc7∘Zac∘ZF∘Zc7∘ZJ∘Zl∘Zl∘Zad∘ZP∘ZC∘Zbc) ?_;refine yn (k+1) ⟨hlt,M4 hc (zja a2 a3) hall⟩ T ⟨Z,Z,Z,nm⟩
    ·by_cases a4:122<(c.toNat:Int)
     ·have a5:57<(c.toNat:Int):=T;refine(Zbm∘Zz∘ZT∘Zd∘ZbG∘Zc7∘Zac∘ZF∘Zc7∘ZO∘Zl∘ZF∘Zc7∘Zac∘ZF∘Zc7∘ZO∘Zl∘ZbS∘ZK∘Zc) ?_;refine yg1 L [.tmp 2] fun u H hH hle=>?_;exact nh _ (Vp hc (zjc a4)).symm
     ·refine(Zbm∘Zz∘ZT∘Zd∘ZbG∘Zc7∘Zac∘ZF∘Zc7∘ZJ∘Zl∘ZaF∘Zbb∘Zbb∘Zbb∘Zbb∘Zl∘Zad∘ZP∘ZC∘Zbc) ?_;refine yn (k+1) ⟨hlt,M4 hc (zjb a1 a4) hall⟩ T ⟨Z,Z,Z,nm⟩
   ·refine(Zbm∘ZaO∘Zat∘Zc) ?_;refine yg1 L [.tmp 2] fun u H hH hle=>?_;exact nh _ (ze0 h1 h2 (zbn T hall)).symm
  ·refine(ZaN∘Zc8∘Zac∘Zb∘Zc8∘ZO∘ZbS∘Zx∘Zc) ?_;refine yg1 L [.tmp 2] fun u H hH hle=>?_;exact nh _ (Vo T).symm
 ·refine(ZaN∘Zc8∘Zab∘ZbT∘Zu∘Zx∘Zc) ?_;refine yg1 L [.tmp 2] fun u H hH hle=>?_;exact nh _ (Vo T).symm
def _root_.Zk(t:Wr Y->A:=by intro h;refine z7 (q0 Z Z Z) Z ?_;exact h.1)(h:Y):A:=t ⟨h⟩
def _root_.ZcL(t:Wr Y->A:=by intro h;refine z7 (yf L Z Z Z Z) Z ?_;exact h.1)(h:Y):A:=t ⟨h⟩
def _root_.Za5(t:Wr Y->A:=by intro h;refine z7 (yw Z Z Z Z (ng T)) Z ?_;exact h.1)(h:Y):A:=t ⟨h⟩
def _root_.Zaa(t:Wr Y->A:=by intro h;refine z7 (yd L _ Z Z Z Z (by first | omega | decide) M) Z ?_;exact h.1)(h:Y):A:=t ⟨h⟩
def _root_.Zds(t:Wr Y->A:=by intro h;refine z7 (yw Z Z Z Z (nf T)) Z ?_;exact h.1)(h:Y):A:=t ⟨h⟩
def _root_.Zcy(t:Wr Y->A:=by intro h;refine z7 (Gx L Z Z Z Z Z) Z ?_;exact h.1)(h:Y):A:=t ⟨h⟩
def _root_.Zes(t:Wr Y->A:=by intro h;refine z71 L Z (fun u H hH _=>check_ret _ (by first | omega | decide) hH) ?_;exact h.1)(h:Y):A:=t ⟨h⟩
def _root_.Zh(t:Wr Y->A:=by exact fun h=>(Zk∘ZcL) h.1)(h:Y):A:=t ⟨h⟩
def _root_.Z9(t:Wr Y->A:=by exact fun h=>(ZS∘Za) h.1)(h:Y):A:=t ⟨h⟩
def _root_.ZL(t:Wr Y->A:=by exact fun h=>(Zaw∘Za) h.1)(h:Y):A:=t ⟨h⟩
def _root_.ZaG(t:Wr Y->A:=by exact fun h=>(Zds∘Zu) h.1)(h:Y):A:=t ⟨h⟩
def _root_.Zbu(t:Wr Y->A:=by exact fun h=>(Zd∘ZT) h.1)(h:Y):A:=t ⟨h⟩
def p7:List ByteArray->Int
 | []=>0
 | s::l=>if chk s=0 then p7 l else chk s
def Kb:∀ (l:List ByteArray) (s:ByteArray),p7 l=0->p7 (l++[s])=chk s
 | [],s,_=>by simp only[mh,p7];split<;>simp_all
 | x::l,s,h=>by
  simp only[zll,p7] at h |-;by_cases hx:chk x=0
  ·rw[na hx] at h |-;exact Kb l s h
  ·rw[nc hx] at h;exact ni h hx
def Oz:∀ (l:List ByteArray) (k:Nat) (s:ByteArray),p7 (l.take k)=0->l[k]?=some s->chk s≠0->p7 l=chk s
 | [],k,s,_,h,_=>by simp at h
 | x::l,0,s,_,h,hc=>by simp at h;subst h;simp [p7,hc]
 | x::l,k+1,s,ha,h,hc=>by
  simp only[zm7,p7] at ha;simp only[zmm] at h;by_cases hx:chk x=0
  ·rw[na hx] at ha;simp only[p7,na hx];exact Oz l k s ha h hc
  ·rw[nc hx] at ha;exact ni ha hx
def V3(l:List ByteArray)(hl:∀ s∈l,s.size<=9223372036854775807)(hlen:l.length<=1000){v:Value}(hB:zpg B w)(hv:SlV e 1 (l.map Value.string) l.length fu v B):
  Ret zph 188 [v] w B (fun v _=>v=.int .i64 (p7 l)):=by
 refine yh Tryz.func188 Z Tryz.ntmps188 (np Z) hB (k8 0 (SlV e 1 (l.map Value.string) l.length fu) Z nw hv ((ZB∘Zah∘Zh∘Zbt) ?_))
 refine xm (fun k:Nat=>[(6,.sat (SlV e 1 (l.map Value.string) l.length fu)),(7,.is (.int .i64 l.length)),(8,.is (.int .i64 k))])
  (fun k=>k<=l.length/\p7 (l.take k)=0) (fun k=>l.length-k) 0 ⟨mf _,by simp [p7]⟩ ⟨rfl,rfl,rfl,nm⟩ ?_
 rintro k ⟨hk,hall⟩;by_cases hlt:k<l.length
 ·have hs:l[k]?=some l[k]:=zlh hlt;generalize l[k]=s at hs;have hsz:s.size<=9223372036854775807:=hl s (zln hs);have hc:=zge hs;by_cases h0:chk s=0
  ·refine(Zf∘Zx∘Zz∘ZI∘Zaa∘Zcy∘Zd∘Z9∘Zes∘Zbu∘Za5∘Zad∘ZP∘ZK∘Zbc) ?_;refine yn (k+1) ⟨hlt,?_⟩ T ⟨Z,Z,Z,nm⟩;rw[zlc,hs];show p7 (l.take k++[s])=0;rw[Kb _ _ hall,h0]
  ·refine(Zf∘Zx∘Zz∘ZI∘Zaa∘Zcy∘Zd∘Z9∘Zes∘Zbu∘ZaG∘ZL∘Zc) ?_;refine yg1 L [.tmp 2] fun u H hH hle=>?_;exact nh _ (Oz l k s hall hs h0).symm
 ·refine(Zf∘Zx∘ZaO∘ZC∘Zc) ?_;refine yg1 L [.tmp 2] fun u H hH hle=>?_;have:l.take k=l:=zle T;exact nh _ (this ▸ hall).symm
end Go.V
end
namespace Go.Proofs
open Go.Shelf
def Tryz.ren:Go.Shelf.Ren:=⟨fun | 104=>131 | 106=>102 | 125=>169 | 128=>224 | 129=>225 | 137=>242 | 138=>187 | 143=>122 | 144=>59 | 145=>58 | 195=>238 | 207=>243 | 211=>192 | 213=>170 | 217=>234 | 218=>239 | 219=>185 | 220=>121 | 224=>236 | 225=>235 | 265=>226 | 266=>269 | 267=>237 | 314=>270 | n=>n,fun | 24=>213 | 46=>113 | 51=>311 | 53=>48 | 59=>126 | 146=>342 | n=>n,fun | 1=>0 | n=>n⟩
def Tryz.s1_3(w:World)(h:w.ShapedOpen zph):∃ m,w.cell? ⟨Tryz.ren.g 1,0,none⟩=some (.int .i64 m):=Go.Proofs.cell_of_shapedOpen_int (zero:=#[.int .i64 0]) (t:=3) h (of_decide_eq_true (by kernel_rfl)) (by kernel_rfl) rfl (by kernel_rfl) (by kernel_rfl) Tryz.underlying3
def Tryz.lays213:Go.Proofs.Lays.n213 zph Tryz.ren:=by constructor<;>intros<;>kernel_rfl
def Tryz.bytealg_CompareString(a b:ByteArray)(w:World):
  Calls zph 170 #[.string a,.string b] w fun e w'=>e=.returned (.int .i64 (Lib.compareBytes a.data.toList b.data.toList))/\w'=w:=Any.bytealg_CompareString Tryz.lays213 a b w
def Tryz.lays106:Go.Proofs.Lays.n106 zph Tryz.ren:=by constructor<;>intros<;>kernel_rfl
def Tryz.strings_Compare(a b:ByteArray)(w:World):
  Calls zph 102 #[.string a,.string b] w fun e w'=>e=.returned (.int .i64 (Lib.compareBytes a.data.toList b.data.toList))/\w'=w:=Any.strings_Compare Tryz.lays106 a b w
def Tryz.lays137:Go.Proofs.Lays.n137 zph Tryz.ren:=by constructor<;>intros<;>kernel_rfl
def Tryz.strings_IndexByte(s:ByteArray)(c:Int)(w:World):
  Calls zph 242 #[.string s,.int .u8 c] w fun e w'=>e=.returned (.int .i64 (Lib.indexByte s.data.toList c.toNat.toUInt8))/\w'=w:=Any.strings_IndexByte Tryz.lays137 s c w
def Tryz.lays211:Go.Proofs.Lays.n211 zph Tryz.ren:=by constructor<;>intros<;>kernel_rfl
def Tryz.stringslite_CutSuffix(s p:ByteArray)(w:World)(hs:s.size<=9223372036854775807):
  Calls zph 192 #[.string s,.string p] w fun e w'=>e=.returned (.tuple #[.string ⟨(Lib.trimSuffix s.data.toList p.data.toList).toArray⟩,.bool (Lib.hasSuffix s.data.toList p.data.toList)])/\w'=w:=Any.stringslite_CutSuffix Tryz.lays211 s p w hs
def Tryz.lays104:Go.Proofs.Lays.n104 zph Tryz.ren:=by constructor<;>intros<;>kernel_rfl
def Tryz.strings_CutSuffix(s p:ByteArray)(w:World)(hs:s.size<=9223372036854775807):
  Calls zph 131 #[.string s,.string p] w fun e w'=>e=.returned (.tuple #[.string ⟨(Lib.trimSuffix s.data.toList p.data.toList).toArray⟩,.bool (Lib.hasSuffix s.data.toList p.data.toList)])/\w'=w:=Any.strings_CutSuffix Tryz.lays104 s p w hs
def Tryz.lays195:Go.Proofs.Lays.n195 zph Tryz.ren:=by constructor<;>intros<;>kernel_rfl
def Tryz.utf8_RuneCountInString(s:ByteArray)(w:World)(hs:s.size<9223372036854775807):
  Calls zph 238 #[.string s] w fun e w'=>e=.returned (.int .i64 (Lib.runeCount s))/\∃ pos,w'=w.iter s pos:=Any.utf8_RuneCountInString Tryz.lays195 s w hs
def Tryz.lays129:Go.Proofs.Lays.n129 zph Tryz.ren:=by constructor<;>intros<;>kernel_rfl
def Tryz.bits_Len64(x:Int)(w:World)(h0:0<=x)(h1:x<=18446744073709551615):
  Calls zph 225 #[.int .u64 x] w fun e w'=>e=.returned (.int .i64 (Lib.bitLen x.toNat))/\w'=w:=Any.bits_Len64 Tryz.lays129 x w h0 h1
def Tryz.lays217:Go.Proofs.Lays.n217 zph Tryz.ren:=by constructor<;>intros<;>kernel_rfl
open Go.RowKit Go.Lib in
def Tryz.stringslite_IndexByte(s:ByteArray)(c:Int)(w:World):
  Calls zph 234 #[.string s,.int .u8 c] w fun e w'=>e=.returned (.int .i64 (Lib.indexByte s.data.toList c.toNat.toUInt8))/\w'=w:=Any.stringslite_IndexByte Tryz.lays217 s c w
def Tryz.lays224:Go.Proofs.Lays.n224 zph Tryz.ren:=by constructor<;>intros<;>kernel_rfl
open Go.RowKit Go.Lib in
def Tryz.bytealg_Cutover(n:Int)(h0:0<=n)(h1:n<4611686018427387904)(w:World):
  Calls zph 236 #[.int .i64 n] w fun e w'=>e=.returned (.int .i64 ((n+16)/8))/\w'=w:=Any.bytealg_Cutover Tryz.lays224 n h0 h1 w
def Tryz.lays314:Go.Proofs.Lays.n314 zph Tryz.ren:=by constructor<;>intros<;>kernel_rfl
open Go.RowKit Go.Lib in
def Tryz.bytealg_hashStr(sep:ByteArray)(hs:sep.size<4294967281)(w:World):
  Calls zph 270 #[.string sep] w fun e w'=>e=.returned (.tuple #[.int .u32 (RK.H sep.data.toList%4294967296),.int .u32 (16777619^sep.size%4294967296)])/\w'=w:=Any.bytealg_hashStr Tryz.lays314 sep hs w
def Tryz.lays267:Go.Proofs.Lays.n267 zph Tryz.ren:=by constructor<;>intros<;>kernel_rfl
open Go.RowKit Go.Lib in
def Tryz.bytealg_IndexRabinKarp(s sep:ByteArray)(h1:1<=sep.size)(h2:sep.size<=s.size)(hs:s.size<4294967281)(w:World):
  Calls zph 237 #[.string s,.string sep] w fun e w'=>e=.returned (.int .i64 (Lib.index s.data.toList sep.data.toList))/\w'=w:=Any.bytealg_IndexRabinKarp Tryz.lays267 s sep h1 h2 hs w
def Tryz.lays219:Go.Proofs.Lays.n219 zph Tryz.ren:=by constructor<;>intros<;>kernel_rfl
open Go.RowKit Go.Lib in
def Tryz.stringslite_Index_one(s:ByteArray)(c:UInt8)(w:World):
  Calls zph 185 #[.string s,.string ⟨#[c]⟩] w fun e w'=>e=.returned (.int .i64 (Lib.indexByte s.data.toList c))/\w'=w:=Any.stringslite_Index_one Tryz.lays219 s c w
open Go.RowKit Go.Lib in
def Tryz.stringslite_Index(s sub:ByteArray)(m:Int)(w:World)(hs:s.size<4294967281)(hm:w.cell? ⟨0,0,none⟩=some (.int .i64 m)):
  Calls zph 185 #[.string s,.string sub] w fun e w'=>e=.returned (.int .i64 (Lib.index s.data.toList sub.data.toList))/\w'=w:=Any.stringslite_Index Tryz.lays219 s sub m w hs hm
def Tryz.lays143:Go.Proofs.Lays.n143 zph Tryz.ren:=by constructor<;>intros<;>kernel_rfl
open Go.RowKit Go.Lib in
def Tryz.strings_Index_one(s:ByteArray)(c:UInt8)(w:World):
  Calls zph 122 #[.string s,.string ⟨#[c]⟩] w fun e w'=>e=.returned (.int .i64 (Lib.indexByte s.data.toList c))/\w'=w:=Any.strings_Index_one Tryz.lays143 s c w
open Go.RowKit Go.Lib in
def Tryz.strings_Index(s sub:ByteArray)(m:Int)(w:World)(hs:s.size<4294967281)(hm:w.cell? ⟨0,0,none⟩=some (.int .i64 m)):
  Calls zph 122 #[.string s,.string sub] w fun e w'=>e=.returned (.int .i64 (Lib.index s.data.toList sub.data.toList))/\w'=w:=Any.strings_Index Tryz.lays143 s sub m w hs hm
def Tryz.lays144:Go.Proofs.Lays.n144 zph Tryz.ren:=by constructor<;>intros<;>kernel_rfl
open Go.RowKit Go.Lib in
def Tryz.strings_Contains_one(s:ByteArray)(c:UInt8)(w:World):
  Calls zph 59 #[.string s,.string ⟨#[c]⟩] w fun e w'=>e=.returned (.bool (decide (0<=Lib.indexByte s.data.toList c)))/\w'=w:=Any.strings_Contains_one Tryz.lays144 s c w
open Go.RowKit Go.Lib in
def Tryz.strings_Contains(s sub:ByteArray)(m:Int)(w:World)(hs:s.size<4294967281)(hm:w.cell? ⟨0,0,none⟩=some (.int .i64 m)):
  Calls zph 59 #[.string s,.string sub] w fun e w'=>e=.returned (.bool (Lib.contains s.data.toList sub.data.toList))/\w'=w:=Any.strings_Contains Tryz.lays144 s sub m w hs hm
def Tryz.lays220:Go.Proofs.Lays.n220 zph Tryz.ren:=by constructor<;>intros<;>kernel_rfl
open Go.RowKit Go.Lib in
def Tryz.stringslite_Cut(s sep:ByteArray)(m:Int)(w:World)(hs:s.size<4294967281)(hm:w.cell? ⟨0,0,none⟩=some (.int .i64 m)):
  Calls zph 121 #[.string s,.string sep] w fun e w'=>e=.returned (.tuple #[.string ⟨(Lib.cut s.data.toList sep.data.toList).1.toArray⟩,.string ⟨(Lib.cut s.data.toList sep.data.toList).2.1.toArray⟩,.bool (Lib.cut s.data.toList sep.data.toList).2.2])/\∃ n,w'=w.drewN n:=Any.stringslite_Cut Tryz.lays220 s sep m w hs hm
def Tryz.lays145:Go.Proofs.Lays.n145 zph Tryz.ren:=by constructor<;>intros<;>kernel_rfl
open Go.RowKit Go.Lib in
def Tryz.strings_Cut(s sep:ByteArray)(m:Int)(w:World)(hs:s.size<4294967281)(hm:w.cell? ⟨0,0,none⟩=some (.int .i64 m)):
  Calls zph 58 #[.string s,.string sep] w fun e w'=>e=.returned (.tuple #[.string ⟨(Lib.cut s.data.toList sep.data.toList).1.toArray⟩,.string ⟨(Lib.cut s.data.toList sep.data.toList).2.1.toArray⟩,.bool (Lib.cut s.data.toList sep.data.toList).2.2])/\∃ n,w'=w.drewN n:=Any.strings_Cut Tryz.lays145 s sep m w hs hm
def Tryz.lays138:Go.Proofs.Lays.n138 zph Tryz.ren:=by constructor<;>intros<;>kernel_rfl
open Go.RowKit Go.Lib in
def Tryz.strings_Count_one(s:ByteArray)(c:UInt8)(w:World):
  Calls zph 187 #[.string s,.string ⟨#[c]⟩] w fun e w'=>e=.returned (.int .i64 (Lib.countByte s.data.toList c))/\w'=w:=Any.strings_Count_one Tryz.lays138 s c w
open Go.RowKit Go.Lib in
def Tryz.strings_Count(s sub:ByteArray)(m:Int)(w:World)(hs:s.size<4294967281)(hm:w.cell? ⟨0,0,none⟩=some (.int .i64 m))(h2:2<=sub.size):
  Calls zph 187 #[.string s,.string sub] w fun e w'=>e=.returned (.int .i64 (Lib.countB s sub))/\w'=w:=Any.strings_Count Tryz.lays138 s sub m w hs hm h2
def Tryz.laysM219:Go.Proofs.LaysM.n219 zph Tryz.ren:=by constructor<;>first | exact Tryz.lays219 | exact Tryz.s1_3 | (intros;kernel_rfl)
open Go.RowKit Go.Lib in
def Tryz.stringslite_Index_shaped(s sub:ByteArray)(w:World)(h:w.ShapedOpen zph)(hs:s.size<4294967281):
  Calls zph 185 #[.string s,.string sub] w fun e w'=>e=.returned (.int .i64 (Lib.index s.data.toList sub.data.toList))/\w'=w:=Any.stringslite_Index_shaped Tryz.laysM219 s sub w h hs
def Tryz.laysM143:Go.Proofs.LaysM.n143 zph Tryz.ren:=by constructor<;>first | exact Tryz.lays143 | exact Tryz.s1_3 | (intros;kernel_rfl)
open Go.RowKit Go.Lib in
def Tryz.strings_Index_shaped(s sub:ByteArray)(w:World)(h:w.ShapedOpen zph)(hs:s.size<4294967281):
  Calls zph 122 #[.string s,.string sub] w fun e w'=>e=.returned (.int .i64 (Lib.index s.data.toList sub.data.toList))/\w'=w:=Any.strings_Index_shaped Tryz.laysM143 s sub w h hs
def Tryz.laysM144:Go.Proofs.LaysM.n144 zph Tryz.ren:=by constructor<;>first | exact Tryz.lays144 | exact Tryz.s1_3 | (intros;kernel_rfl)
open Go.RowKit Go.Lib in
def Tryz.strings_Contains_shaped(s sub:ByteArray)(w:World)(h:w.ShapedOpen zph)(hs:s.size<4294967281):
  Calls zph 59 #[.string s,.string sub] w fun e w'=>e=.returned (.bool (Lib.contains s.data.toList sub.data.toList))/\w'=w:=Any.strings_Contains_shaped Tryz.laysM144 s sub w h hs
def Tryz.laysM220:Go.Proofs.LaysM.n220 zph Tryz.ren:=by constructor<;>first | exact Tryz.lays220 | exact Tryz.s1_3 | (intros;kernel_rfl)
open Go.RowKit Go.Lib in
def Tryz.stringslite_Cut_shaped(s sep:ByteArray)(w:World)(h:w.ShapedOpen zph)(hs:s.size<4294967281):
  Calls zph 121 #[.string s,.string sep] w fun e w'=>e=.returned (.tuple #[.string ⟨(Lib.cut s.data.toList sep.data.toList).1.toArray⟩,.string ⟨(Lib.cut s.data.toList sep.data.toList).2.1.toArray⟩,.bool (Lib.cut s.data.toList sep.data.toList).2.2])/\∃ n,w'=w.drewN n:=Any.stringslite_Cut_shaped Tryz.laysM220 s sep w h hs
def Tryz.laysM145:Go.Proofs.LaysM.n145 zph Tryz.ren:=by constructor<;>first | exact Tryz.lays145 | exact Tryz.s1_3 | (intros;kernel_rfl)
open Go.RowKit Go.Lib in
def Tryz.strings_Cut_shaped(s sep:ByteArray)(w:World)(h:w.ShapedOpen zph)(hs:s.size<4294967281):
  Calls zph 58 #[.string s,.string sep] w fun e w'=>e=.returned (.tuple #[.string ⟨(Lib.cut s.data.toList sep.data.toList).1.toArray⟩,.string ⟨(Lib.cut s.data.toList sep.data.toList).2.1.toArray⟩,.bool (Lib.cut s.data.toList sep.data.toList).2.2])/\∃ n,w'=w.drewN n:=Any.strings_Cut_shaped Tryz.laysM145 s sep w h hs
def Tryz.laysM138:Go.Proofs.LaysM.n138 zph Tryz.ren:=by constructor<;>first | exact Tryz.lays138 | exact Tryz.s1_3 | (intros;kernel_rfl)
open Go.RowKit Go.Lib in
def Tryz.strings_Count_shaped(s sub:ByteArray)(w:World)(h:w.ShapedOpen zph)(hs:s.size<4294967281)(h2:2<=sub.size):
  Calls zph 187 #[.string s,.string sub] w fun e w'=>e=.returned (.int .i64 (Lib.countB s sub))/\w'=w:=Any.strings_Count_shaped Tryz.laysM138 s sub w h hs h2
def Tryz.lays207:Go.Proofs.Lays.n207 zph Tryz.ren:=by constructor<;>intros<;>kernel_rfl
open Go.RowKit Go.Lib in
def Tryz.stringslite_HasSuffix(s p:ByteArray)(w:World)(hs:s.size<=9223372036854775807):
  Calls zph 243 #[.string s,.string p] w fun e w'=>e=.returned (.bool (Lib.hasSuffix s.data.toList p.data.toList))/\w'=w:=Any.stringslite_HasSuffix Tryz.lays207 s p w hs
open Go.RowKit Go.Lib in
def Tryz.strings_Count_any(s sep:ByteArray)(m:Int)(w:World)(hs:s.size<4294967281)(hm:w.cell? ⟨0,0,none⟩=some (.int .i64 m))(h1:1<=sep.size):
  Calls zph 187 #[.string s,.string sep] w fun e w'=>e=.returned (.int .i64 (Lib.countB s sep))/\w'=w:=Any.strings_Count_any Tryz.lays138 s sep m w hs hm h1
open Go.RowKit Go.Lib in
def Tryz.utf8_RuneCountInString_ascii(s:ByteArray)(w:World)(hs:s.size<4294967281)(hascii:∀ (j:Nat) b,s.data.toList[j]?=some b->b.toNat<128):
  Calls zph 238 #[.string s] w fun e w'=>e=.returned (.int .i64 s.size)/\w'=w.iter s s.size:=Any.utf8_RuneCountInString_ascii Tryz.lays195 s w hs hascii
end Go.Proofs
section
open Go.V
attribute [local irreducible] Has N Par Ret RetL Src StepOK V VO X
namespace Go.V
def _root_.ZcF(t:Wr Y->A:=by intro h;refine z7 (yl Z Z Z Z) Z ?_;exact h.1)(h:Y):A:=t ⟨h⟩
def _root_.ZQ(t:Wr Y->A:=by intro h;refine z7 (qv L Z Z Z Z) Z ?_;exact h.1)(h:Y):A:=t ⟨h⟩
def _root_.ZbU(t:Wr Y->A:=by intro h;refine qs ?_;exact h.1)(h:Y):A:=t ⟨h⟩
def _root_.Za1(t:Wr Y->A:=by intro h;refine z7 (zx L (vs:=[_,_]) (y9 Z) Z Z Z Z ⟨_,rfl⟩) Z ?_;exact h.1)(h:Y):A:=t ⟨h⟩
def _root_.Zbd(t:Wr Y->A:=by intro h;refine z8 (zi Z Z Z) Z ?_;exact h.1)(h:Y):A:=t ⟨h⟩
def _root_.ZcG(t:Wr Y->A:=by intro h;refine z7 (qf L (y9 Z) Z Z Z Z) Z ?_;exact h.1)(h:Y):A:=t ⟨h⟩
def _root_.Zae(t:Wr Y->A:=by intro h;refine z7 (ym L Z Z Z Z Z Z) Z ?_;exact h.1)(h:Y):A:=t ⟨h⟩
def _root_.Zb0(t:Wr Y->A:=by intro h;refine z8 (qv L Z Z Z Z) Z ?_;exact h.1)(h:Y):A:=t ⟨h⟩
def _root_.ZeP(t:Wr Y->A:=by intro h;refine z8 (qf L (y9 Z) Z Z Z Z) Z ?_;exact h.1)(h:Y):A:=t ⟨h⟩
def _root_.Zcz(t:Wr Y->A:=by intro h;refine z7 (zx L (vs:=[_,_,_]) (y9 Z) Z Z Z Z ⟨_,rfl⟩) Z ?_;exact h.1)(h:Y):A:=t ⟨h⟩
def _root_.ZcM(t:Wr Y->A:=by intro h;refine z8 (zx L (vs:=[_,_]) (y9 Z) Z Z Z Z ⟨_,rfl⟩) Z ?_;exact h.1)(h:Y):A:=t ⟨h⟩
def _root_.Zc0(t:Wr Y->A:=by intro h;refine qg (id:=1) [] mixed J ?_;exact h.1)(h:Y):A:=t ⟨h⟩
def _root_.Zdi(t:Wr Y->A:=by intro h;refine z8 (ym L Z Z Z Z Z Z) Z ?_;exact h.1)(h:Y):A:=t ⟨h⟩
def _root_.Zb1(t:Wr Y->A:=by exact fun h=>(ZbU∘Zc6) h.1)(h:Y):A:=t ⟨h⟩
def _root_.Zaf(t:Wr Y->A:=by exact fun h=>(Zd∘Z3) h.1)(h:Y):A:=t ⟨h⟩
def _root_.Z7(t:Wr Y->A:=by exact fun h=>(ZB∘ZcF) h.1)(h:Y):A:=t ⟨h⟩
def _root_.Z0(t:Wr Y->A:=by exact fun h=>(ZB∘Zaf) h.1)(h:Y):A:=t ⟨h⟩
def _root_.Zai(t:Wr Y->A:=by exact fun h=>(ZQ∘ZcG) h.1)(h:Y):A:=t ⟨h⟩
def _root_.Za2(t:Wr Y->A:=by exact fun h=>(Z7∘ZcF) h.1)(h:Y):A:=t ⟨h⟩
def _root_.ZaP(t:Wr Y->A:=by exact fun h=>(Zbd∘Zb1) h.1)(h:Y):A:=t ⟨h⟩
def _root_.Zbe(t:Wr Y->A:=by exact fun h=>(ZC∘Za) h.1)(h:Y):A:=t ⟨h⟩
def _root_.Zbn(t:Wr Y->A:=by exact fun h=>(Zf∘ZI) h.1)(h:Y):A:=t ⟨h⟩
def _root_.Zb2(t:Wr Y->A:=by exact fun h=>(Zb0∘ZeP) h.1)(h:Y):A:=t ⟨h⟩
def zbp(ha:a.size<=9223372036854775807)(hb:b.size<=9223372036854775807)(hB:zpg B w){t:Nat}{v:Value}(hv:SlB [.string a,.string b] t 2 v B):
  Ret zph 188 [v] w B (fun v _=>v=.int .i64 (p7 [a,b])):=by
 exact V3 [a,b] (by intro s hs;simp at hs;rcases hs with rfl | rfl<;>assumption) (by simp) hB (hv.toV rfl)
def zbo(ha:a.size<=9223372036854775807)(hb:b.size<=9223372036854775807)(hc:c.size<=9223372036854775807)(hB:zpg B w){t:Nat}{v:Value}(hv:SlB [.string a,.string b,.string c] t 3 v B):
  Ret zph 188 [v] w B (fun v _=>v=.int .i64 (p7 [a,b,c])):=by
 exact V3 [a,b,c] (by intro s hs;simp at hs;rcases hs with rfl | rfl | rfl<;>assumption) (by simp) hB (hv.toV rfl)
def pt(ha:a.size<=9223372036854775807)(hb:b.size<=9223372036854775807)(hB:zpg B w):
  Ret zph 125 [.agg #[.string a,.string b]] w B (fun v _=>v=.int .i64 (p7 [a,b])):=by
 refine yh Tryz.func125 Z Tryz.ntmps125 (np Z) hB ((Z7∘Zaf∘Zai∘Zai∘Zae) ?_);refine z7 (zz L Z Z (zn Z) Z Z Z (fun u H hH _ _ v hv=>zbp Q Q hH hv)) Z (Zc (h:=?_));exact yg2 L [.tmp 2]
def goal_ret(ha:a.size<=9223372036854775807)(hb:b.size<=9223372036854775807)(hc:c.size<=9223372036854775807)(hB:zpg B w):
  Ret zph 124 [.agg #[.string a,.string b,.string c]] w B (fun v _=>v=.int .i64 (p7 [a,b,c])):=by
 refine yh Tryz.func124 Z Tryz.ntmps124 (np Z) hB ((Z7∘Zaf∘ZQ∘Zai∘ZQ∘Zai∘Zai∘Zae) ?_);refine z7 (zz L Z Z (zn Z) Z Z Z (fun u H hH _ _ v hv=>zbo Q Q Q hH hv)) Z (Zc (h:=?_));exact yg2 L [.tmp 2]
def B8(a b c:ByteArray):Int:=if c=⟨#[]⟩ then p7 [a,b] else p7 [a,b,c]
def Ku(ha:a.size<=9223372036854775807)(hb:b.size<=9223372036854775807)(hc:c.size<=9223372036854775807)(hB:zpg B w):
  Ret zph 133 [.agg #[.string a,.string b,.string c]] w B (fun v _=>v=.int .i64 (B8 a b c)):=by
 refine yh Tryz.func133 Z Tryz.ntmps133 (np Z) hB ?_;by_cases h:c=⟨#[]⟩
 ·refine(Z7∘Zah∘Zai) ?_;refine z7 (Sx Z Z Z Z (nf M)) Z ((Zu∘Zx∘ZQ∘Za1) ?_);refine z71 L Z (fun u H hH _=>pt Q Q hH) ?_;refine Zc (h:=?_);refine yg1 L [.tmp 2] fun u H hH hle=>?_;exact nh (Value.int .i64) (show p7 [a,b]=B8 a b c from(na h).symm)
 ·refine(Z7∘Zah∘Zai) ?_;refine z7 (Sx Z Z Z Z (ng M)) Z ((Zn∘ZI∘Zcz) ?_);refine z71 L Z (fun u H hH _=>goal_ret Q Q Q hH) ?_;refine Zc (h:=?_);refine yg1 L [.tmp 2] fun u H hH hle=>?_;exact nh (Value.int .i64) (show p7 [a,b,c]=B8 a b c from(nc h).symm)
def Xh(a b:ByteArray):Int:=Lib.compareBytes a.data.toList b.data.toList
def D4(hB:zpg B w):Ret zph 102 [.string a,.string b] w B (fun v _=>v=.int .i64 (Xh a b)):=Ret.of_same hB (Tryz.strings_Compare a b w)
def orL:List Int->Int
 | []=>0
 | x::l=>if x=0 then orL l else x
def Sr:∀ (l:List Int) (k:Nat) (s:Int),(∀ x∈l.take k,x=0)->l[k]?=some s->s≠0->orL l=s
 | [],k,s,_,h,_=>by simp at h
 | x::l,0,s,_,h,hc=>by simp at h;subst h;simp [orL,hc]
 | x::l,k+1,s,ha,h,hc=>by
  simp only[zm7] at ha;simp only[zmm] at h;have hx:=ha x (mb ..);simp only[orL,na hx];exact Sr l k s (fun y hy=>ha y (mc _ hy)) h hc
def Nj:∀ (l:List Int),(∀ x∈l,x=0)->orL l=0
 | [],_=>rfl
 | x::l,h=>by simp only[orL,na (h x (mb ..))];exact Nj l fun y hy=>h y (mc _ hy)
def zgv(l:List Int)(hlen:l.length<=1000){v:Value}(hB:zpg B w)(hv:SlV e 1 (l.map (Value.int .i64)) l.length fu v B):
  Ret zph 100 [v] w B (fun v _=>v=.int .i64 (orL l)):=by
 refine yh Tryz.func100 Z Tryz.ntmps100 (np Z) hB (k8 0 (SlV e 1 (l.map (Value.int .i64)) l.length fu) Z nw hv ((Z0∘Zi∘Zx∘Zh∘Zbt) ?_))
 refine xm (fun k:Nat=>[(3,.is (.int .i64 0)),(6,.sat (SlV e 1 (l.map (Value.int .i64)) l.length fu)),(7,.is (.int .i64 l.length)),(8,.is (.int .i64 k))])
  (fun k=>k<=l.length/\∀ x∈l.take k,x=0) (fun k=>l.length-k) 0 ⟨mf _,by simp⟩ ⟨rfl,rfl,rfl,rfl,nm⟩ ?_
 rintro k ⟨hk,hall⟩;by_cases hlt:k<l.length
 ·have hs:l[k]?=some l[k]:=zlh hlt;generalize l[k]=s at hs;have hc:((l.map (Value.int .i64)).drop (k*1)).take 1=[.int .i64 s]:=zb1 (by simp [hs]);by_cases h0:s=0
  ·refine(Zbn∘Zz∘ZS∘Zaa∘Zcy∘Zd∘ZE∘Zb∘Za5∘Zad∘ZP∘ZK∘Zbc) ?_;refine yn (k+1) ⟨hlt,?_⟩ T ⟨Z,Z,Z,Z,nm⟩;rw[zlc,hs];intro x hx;rcases mn.1 hx with hx | hx
   ·exact hall x hx
   ·simp at hx;rw[hx,h0]
  ·refine(Zbn∘Zz∘ZS∘Zaa∘Zcy∘Zd∘ZE∘Zb∘ZaG∘ZL∘Zc) ?_;refine yg1 L [.tmp 2] fun u H hH hle=>?_;exact nh _ (Sr l k s hall hs h0).symm
 ·refine(Zbn∘ZaO∘Zbe∘Zc) ?_;refine yg1 L [.tmp 2] fun u H hH hle=>?_;have:l.take k=l:=zle T;exact nh _ (Nj l (this ▸ hall)).symm
def Eh{x y:Int}(hB:zpg B w){t:Nat}{v:Value}(hv:SlB [.int .i64 x,.int .i64 y] t 2 v B):
  Ret zph 100 [v] w B (fun v _=>v=.int .i64 (orL [x,y])):=by
 exact zgv [x,y] (by simp) hB (hv.toV Z)
def zkc(a b c d:ByteArray):Int:=orL [Xh a c,Xh b d]
def zkd(a b r c d s:ByteArray):Int:=orL [zkc a b c d,Xh r s]
def za1{d:ByteArray}(hB:zpg B w):
  Ret zph 101 [.agg #[.string a,.string b],.agg #[.string c,.string d]] w B (fun v _=>v=.int .i64 (zkc a b c d)):=by
 refine yh Tryz.func101 Z Tryz.ntmps101 (np Z) hB ((Za2∘Zd∘Zc0∘Zb2∘Zb2) ?_);refine z81 L Z (fun u H hH _=>D4 hH) ?_;refine(Zb2∘Zb2) ?_;refine z81 L Z (fun u H hH _=>D4 hH) ?_;refine Zdi (h:=?_);refine z8 (zz L Z Z (zn Z) Z Z Z (fun u H hH _ _ v hv=>Eh hH hv)) Z (ZaP (h:=?_));exact yg2 L [.tmp 4]
def tq{r d s:ByteArray}(hB:zpg B w):
  Ret zph 38 [.agg #[.string a,.string b,.string r],.agg #[.string c,.string d,.string s]] w B (fun v _=>v=.int .i64 (zkd a b r c d s)):=by
 refine yh Tryz.func38 Z Tryz.ntmps38 (np Z) hB ((Za2∘Zd∘Zc0∘Zb0∘ZcM∘Zb0∘ZcM) ?_);refine z81 L Z (fun u H hH _=>za1 hH) ?_;refine(Zb2∘Zb2) ?_;refine z81 L Z (fun u H hH _=>D4 hH) ?_;refine Zdi (h:=?_);refine z8 (zz L Z Z (zn Z) Z Z Z (fun u H hH _ _ v hv=>Eh hH hv)) Z (ZaP (h:=?_));exact yg2 L [.tmp 4]
def cmpU_ret{r d s:ByteArray}(hB:zpg B w):
  Ret zph 40 [.agg #[.string a,.string b,.string r],.agg #[.string c,.string d,.string s]] w B (fun v _=>v=.int .i64 (zkd a b r c d s)):=by
 refine yh Tryz.func40 Z Tryz.ntmps40 (np Z) hB ((Za2∘Zaf∘Zcz∘Zcz) ?_);refine z71 L Z (fun u H hH _=>tq hH) ?_;refine Zc (h:=?_);exact yg2 L [.tmp 4]
def za9:∀ (a b:List UInt8),Lib.compareBytes a b= -1\/Lib.compareBytes a b=0\/Lib.compareBytes a b=1
 | [],[]=>.inr (.inl rfl)
 | [],_::_=>.inl rfl
 | _::_,[]=>.inr (.inr rfl)
 | a::xs,b::bs=>by
  unfold Lib.compareBytes;split
  ·exact .inl Z
  ·split
   ·exact .inr (.inr Z)
   ·exact za9 xs bs
def Vs:∀ (a:List UInt8),Lib.compareBytes a a=0
 | []=>rfl
 | a::xs=>by
  unfold Lib.compareBytes;rw[nc (UInt8.lt_irrefl a),nc (UInt8.lt_irrefl a)];exact Vs xs
def zht:∀ (a b:List UInt8),Lib.compareBytes a b=0->a=b
 | [],[],_=>rfl
 | [],_::_,h=>by cases h
 | _::_,[],h=>by cases h
 | a::xs,b::bs,h=>by
  unfold Lib.compareBytes at h;split at h
  ·cases h
  ·split at h
   ·cases h
   ·rename_i h1 h2;have:a=b:=UInt8.le_antisymm (zno.1 h2) (zno.1 h1);rw[this,zht xs bs h]
def Vt:∀ (a b:List UInt8),Lib.compareBytes b a= -Lib.compareBytes a b
 | [],[]=>rfl
 | [],_::_=>rfl
 | _::_,[]=>rfl
 | a::xs,b::bs=>by
  unfold Lib.compareBytes;by_cases h1:a<b
  ·simp [h1,UInt8.lt_asymm h1]
  ·by_cases h2:b<a
   ·simp [h1,h2]
   ·simp [h1,h2];exact Vt xs bs
def Ot:∀ (a b c:List UInt8),Lib.compareBytes a b<=0->Lib.compareBytes b c<=0->Lib.compareBytes a c<=0
 | [],_,[],_,_=>zm5 _
 | [],_,_::_,_,_=>by unfold Lib.compareBytes;decide
 | _::_,[],_,h,_=>by unfold Lib.compareBytes at h;exact absurd h E
 | _::_,_::_,[],_,h=>by unfold Lib.compareBytes at h;exact absurd h E
 | a::xs,b::bs,c::cs,h1,h2=>by
  unfold Lib.compareBytes at h1 h2 |-;by_cases ab:a<b
  ·by_cases bc:b<c
   ·rw[na (UInt8.lt_trans ab bc)];decide
   ·rw[nc bc] at h2;by_cases cb:c<b
    ·rw[na cb] at h2;exact ni h2 E
    ·have:b=c:=UInt8.le_antisymm (zno.1 cb) (zno.1 bc);subst this;rw[na ab];decide
  ·rw[nc ab] at h1;by_cases ba:b<a
   ·rw[na ba] at h1;exact ni h1 E
   ·have:a=b:=UInt8.le_antisymm (zno.1 ba) (zno.1 ab);subst this;rw[nc ab] at h1;by_cases ac:a<c
    ·rw[na ac];decide
    ·rw[nc ac] at h2 |-;by_cases ca:c<a
     ·rw[na ca] at h2;exact ni h2 E
     ·rw[nc ca] at h2 |-;exact Ot xs bs cs h1 h2
structure Ord3{α:Type}(c:α->α->Int):Prop where
 refl:∀ a,c a a=0
 eq:∀ a b,c a b=0->a=b
 anti:∀ a b,c b a= -c a b
 trans:∀ a b d,c a b<=0->c b d<=0->c a d<=0
def zhx(h:a.data.toList=b.data.toList):a=b:=by
 obtain⟨⟨x⟩⟩:=a;obtain⟨⟨y⟩⟩:=b;simp at h;subst h;rfl
def cmpB_ord:Ord3 Xh:=⟨fun a=>Vs _,fun a b h=>zhx (zht _ _ h),fun a b=>Vt _ _,fun a b d h1 h2=>Ot _ _ _ h1 h2⟩
def Rh{α β:Type}(c:α->α->Int)(e:β->β->Int)(x y:α×β):Int:=orL [c x.1 y.1,e x.2 y.2]
def Yr(x y:Int):orL [x,y]=if x=0 then y else x:=by
 simp only[orL];by_cases hx:x=0
 ·rw[na hx,na hx];split<;>simp_all
 ·rw[nc hx,nc hx]
def Ord3.lt_of{c:α->α->Int}(h:Ord3 c){a b d:α}(h1:c a b<=0)(h2:c b d<=0)(h3:c a d=0):c a b=0/\c b d=0:=by
 obtain rfl:=h.eq _ _ h3;have:=h.anti a b;constructor<;>omega
def Ord3.lex{β:Type}{c:α->α->Int}{e:β->β->Int}(hc:Ord3 c)(he:Ord3 e):Ord3 (Rh c e):=by
 refine⟨fun a=>?_,fun a b h=>?_,fun a b=>?_,fun a b d h1 h2=>?_⟩
 ·unfold Rh;rw[Yr,hc.refl,if_pos rfl,he.refl]
 ·unfold Rh at h;rw[Yr] at h;by_cases h0:c a.1 b.1=0
  ·rw[na h0] at h;exact Prod.ext (hc.eq _ _ h0) (he.eq _ _ h)
  ·rw[nc h0] at h;exact ni h h0
 ·unfold Rh;rw[Yr,Yr,hc.anti a.1 b.1,he.anti a.2 b.2];by_cases h0:c a.1 b.1=0
  ·rw[na h0,na T]
  ·rw[nc h0,nc T]
 ·unfold Rh at h1 h2 |-;rw[Yr] at h1 h2 |-;have l1:c a.1 b.1<=0:=by split at h1<;>omega
  have l2:c b.1 d.1<=0:=by split at h2<;>omega
  have l3:=hc.trans _ _ _ l1 l2;by_cases h0:c a.1 d.1=0
  ·obtain⟨e1,e2⟩:=hc.lt_of l1 l2 h0;rw[na e1] at h1;rw[na e2] at h2;rw[na h0];exact he.trans _ _ _ h1 h2
  ·rw[nc h0];exact l3
abbrev gj:=(ByteArray×ByteArray)×ByteArray
def Ki:gj->gj->Int:=Rh (Rh Xh Xh) Xh
def cmp3_ord:Ord3 Ki:=(cmpB_ord.lex cmpB_ord).lex cmpB_ord
end Go.V
end
namespace Go.V
section
variable  {c:α->α->Int}
def Ord3.irr(h:Ord3 c)(a:α):¬ c a a<0:=by rw[h.refl];decide
def Ord3.asym(h:Ord3 c){a b:α}(h1:c a b<0):¬ c b a<0:=by have:=h.anti a b;omega
def Ord3.tr(h:Ord3 c){a b d:α}(h1:c a b<0)(h2:c b d<0):c a d<0:=by
 have h3:=h.trans a b d T T;by_cases h4:c a d=0
 ·have:=h.lt_of (a:=a) (b:=b) (d:=d) T T h4;omega
 ·omega
def Ord3.ne(h:Ord3 c){a b:α}(h1:c a b<0):a≠b:=fun e=>by subst e;exact h.irr a h1
def Ord3.tri(h:Ord3 c){a b:α}(h1:¬ c a b<0)(h2:a≠b):c b a<0:=by
 have:=h.anti a b;have h3:c a b≠0:=fun e=>h2 (h.eq _ _ e);omega
def Sst(c:α->α->Int)(l:List α):Prop:=l.Pairwise fun x y=>c x y<0
def Sst.nil:Sst c []:=List.Pairwise.nil
def Sst.nodup(h:Ord3 c){l:List α}(hs:Sst c l):l.Nodup:=hs.imp fun h1=>h.ne h1
def l8(h:Ord3 c):∀ {l m:List α},Sst c l->Sst c m->(∀ z,z∈l↔z∈m)->l=m
 | [],[],_,_,_=>rfl
 | [],y::m,_,_,e=>by have:=(e y).2 (mb ..);cases this
 | y::l,[],_,_,e=>by have:=(e y).1 (mb ..);cases this
 | y::l,x::m,hl,hm,e=>by
  have h1:=mg.1 hl;have h2:=mg.1 hm
  have exy:y=x:=by
   rcases nz.1 ((e y).1 (mb ..)) with e1 | e1
   ·exact e1
   ·rcases nz.1 ((e x).2 (mb ..)) with e2 | e2
    ·exact e2.symm
    ·exact ni (h1.1 x e2) (h.asym (h2.1 y e1))
  subst exy;congr 1;refine l8 h h1.2 h2.2 fun z=>?_;constructor
  ·intro hz;rcases nz.1 ((e z).1 (mc _ hz)) with e1 | e1
   ·subst e1;exact ni (h1.1 _ hz) (h.irr _)
   ·exact e1
  ·intro hz;rcases nz.1 ((e z).2 (mc _ hz)) with e1 | e1
   ·subst e1;exact ni (h2.1 _ hz) (h.irr _)
   ·exact e1
def tg(c:α->α->Int)(t:α):List α->List α
 | []=>[t]
 | y::l=>if c t y<0 then t::y::l else y::tg c t l
def u4{t z:α}:∀ {l:List α},z∈tg c t l↔z=t\/z∈l
 | []=>by simp [tg]
 | y::l=>by
  simp only[tg];split
  ·simp
  ·rw[nz,u4,nz];constructor
   ·rintro(e | e | e)
    ·exact .inr (.inl e)
    ·exact .inl e
    ·exact .inr (.inr e)
   ·rintro(e | e | e)
    ·exact .inr (.inl e)
    ·exact .inl e
    ·exact .inr (.inr e)
def wv(t:α):∀ (l:List α),(tg c t l).length=l.length+1
 | []=>rfl
 | y::l=>by
  simp only[tg];split
  ·rfl
  ·simp only[ny,wv t l]
def d9(h:Ord3 c){t:α}:∀ {l:List α},Sst c l->t∉l->Sst c (tg c t l)
 | [],_,_=>zmi ..
 | y::l,hs,ht=>by
  have h1:=mg.1 hs;simp only[tg];split
  ·rename_i hlt;refine mg.2 ⟨fun z hz=>?_,hs⟩;rcases nz.1 hz with rfl | hz
   ·exact hlt
   ·exact h.tr hlt (h1.1 z hz)
  ·rename_i hlt;refine mg.2 ⟨fun z hz=>?_,d9 h h1.2 fun e=>ht (mc _ e)⟩;rcases u4.1 hz with rfl | hz
   ·exact h.tri hlt fun e=>ht (by rw[e];exact mb ..)
   ·exact h1.1 z hz
def u7(c:α->α->Int)(f:Bool->Bool->Bool):Nat->List α->List α->List α
 | 0,_,_=>[]
 | n+1,[],[]=>[]
 | n+1,a::l,[]=>(if f true false=true then [a] else [])++u7 c f n l []
 | n+1,[],b::m=>(if f false true=true then [b] else [])++u7 c f n [] m
 | n+1,a::l,b::m=>
  if c a b<0 then (if f true false=true then [a] else [])++u7 c f n l (b::m)
  else if c a b>0 then (if f false true=true then [b] else [])++u7 c f n (a::l) m
  else (if f true true=true then [a] else [])++u7 c f n l m
def Tk(f:Bool->Bool->Bool)(l m:List α)(z:α):Prop:=(z∈l/\z∉m/\f true false=true)\/(z∉l/\z∈m/\f false true=true)\/(z∈l/\z∈m/\f true true=true)
def u0(h:Ord3 c)(f:Bool->Bool->Bool){z:α}:∀ {n:Nat} {l m:List α},l.length+m.length<=n->Sst c l->Sst c m->(z∈u7 c f n l m↔Tk f l m z)
 | 0,l,m,hn,_,_=>by
  have h1:l=[]:=mz T;have h2:m=[]:=mz T;subst h1 h2;simp [u7,Tk]
 | n+1,[],[],_,_,_=>by simp [u7,Tk]
 | n+1,a::l,[],hn,hl,hm=>by
  have h1:=mg.1 hl;have ih:=u0 h f (z:=z) (n:=n) (l:=l) (m:=[]) (by simp only[ny,my] at hn |-;omega) h1.2 hm;simp only[u7,mn,ih,Tk,nz,zmj,not_false_eq_true,true_and,false_and,and_false,or_false];by_cases hf:f true false=true
  ·simp [hf]
  ·simp [hf]
 | n+1,[],b::m,hn,hl,hm=>by
  have h1:=mg.1 hm;have ih:=u0 h f (z:=z) (n:=n) (l:=[]) (m:=m) (by simp only[ny,my] at hn |-;omega) hl h1.2;simp only[u7,mn,ih,Tk,nz,zmj,not_false_eq_true,true_and,false_and,and_false,or_false,false_or];by_cases hf:f false true=true
  ·simp [hf]
  ·simp [hf]
 | n+1,a::l,b::m,hn,hl,hm=>by
  have h1:=mg.1 hl;have h2:=mg.1 hm;have ha:a∉l:=fun e=>h.irr a (h1.1 a e);have hb:b∉m:=fun e=>h.irr b (h2.1 b e);simp only[ny] at hn;simp only[u7];by_cases h3:c a b<0
  ·have ih:=u0 h f (z:=z) (n:=n) (l:=l) (m:=b::m) (by simp only[ny];omega) h1.2 hm
   have hab:a∉b::m:=fun e=>by
    rcases nz.1 e with e | e
    ·exact h.ne h3 e
    ·exact h.irr a (h.tr h3 (h2.1 a e))
   rw[na h3,mn,ih];unfold Tk;by_cases hz:z=a
   ·subst hz;by_cases hf:f true false=true<;>simp [hf,ha,hab]
   ·have e1:z∈a::l↔z∈l:=by rw[nz];exact or_iff_right hz
    rw[e1];by_cases hf:f true false=true<;>simp [hf,hz]
  ·rw[nc h3];by_cases h4:c a b>0
   ·have h5:c b a<0:=by have:=h.anti a b;omega
    have ih:=u0 h f (z:=z) (n:=n) (l:=a::l) (m:=m) (by simp only[ny];omega) hl h2.2
    have hba:b∉a::l:=fun e=>by
     rcases nz.1 e with e | e
     ·exact h.ne h5 e
     ·exact h.irr b (h.tr h5 (h1.1 b e))
    rw[na h4,mn,ih];unfold Tk;by_cases hz:z=b
    ·subst hz;by_cases hf:f false true=true<;>simp [hf,hb,hba]
    ·have e1:z∈b::m↔z∈m:=by rw[nz];exact or_iff_right hz
     rw[e1];by_cases hf:f false true=true<;>simp [hf,hz]
   ·have e:a=b:=h.eq _ _ T;subst e;have ih:=u0 h f (z:=z) (n:=n) (l:=l) (m:=m) T h1.2 h2.2;rw[nc h4,mn,ih];unfold Tk;by_cases hz:z=a
    ·subst hz;by_cases hf:f true true=true<;>simp [hf,ha,hb]
    ·have e1:z∈a::l↔z∈l:=by rw[nz];exact or_iff_right hz
     have e2:z∈a::m↔z∈m:=by rw[nz];exact or_iff_right hz
     rw[e1,e2];by_cases hf:f true true=true<;>simp [hf,hz]
def Tk.or{f:Bool->Bool->Bool}{l m:List α}{z:α}(h:Tk f l m z):z∈l\/z∈m:=by
 rcases h with ⟨h,_⟩ | ⟨_,h,_⟩ | ⟨h,_⟩
 ·exact .inl h
 ·exact .inr h
 ·exact .inl h
def zdc(p:Bool)(a:α):Sst c (if p=true then [a] else []):=by
 split
 ·exact zmi ..
 ·exact Sst.nil
def ij{p:Bool}{a:α}{r:List α}(hr:Sst c r)(hlt:∀ z∈r,c a z<0):Sst c ((if p=true then [a] else [])++r):=by
 refine zl0.2 ⟨zdc p a,hr,fun x hx z hz=>?_⟩;split at hx
 ·rw[m6] at hx;subst hx;exact hlt z hz
 ·cases hx
def d8(h:Ord3 c)(f:Bool->Bool->Bool):∀ {n:Nat} {l m:List α},l.length+m.length<=n->Sst c l->Sst c m->Sst c (u7 c f n l m)
 | 0,_,_,_,_,_=>Sst.nil
 | n+1,[],[],_,_,_=>Sst.nil
 | n+1,a::l,[],hn,hl,hm=>by
  have h1:=mg.1 hl;have hn':l.length+([]:List α).length<=n:=by simp only[ny,my] at hn |-;omega
  refine ij (d8 h f hn' h1.2 hm) fun z hz=>?_;rcases((u0 h f hn' h1.2 hm).1 hz).or with e | e
  ·exact h1.1 z e
  ·cases e
 | n+1,[],b::m,hn,hl,hm=>by
  have h1:=mg.1 hm;have hn':([]:List α).length+m.length<=n:=by simp only[ny,my] at hn |-;omega
  refine ij (d8 h f hn' hl h1.2) fun z hz=>?_;rcases((u0 h f hn' hl h1.2).1 hz).or with e | e
  ·cases e
  ·exact h1.1 z e
 | n+1,a::l,b::m,hn,hl,hm=>by
  have h1:=mg.1 hl;have h2:=mg.1 hm;simp only[ny] at hn;simp only[u7];split
  ·rename_i h3;have hn':l.length+(b::m).length<=n:=by simp only[ny];omega
   refine ij (d8 h f hn' h1.2 hm) fun z hz=>?_;rcases((u0 h f hn' h1.2 hm).1 hz).or with e | e
   ·exact h1.1 z e
   ·rcases nz.1 e with e | e
    ·rw[e];exact h3
    ·exact h.tr h3 (h2.1 z e)
  ·split
   ·rename_i h4;have h5:c b a<0:=by have:=h.anti a b;omega
    have hn':(a::l).length+m.length<=n:=by simp only[ny];omega
    refine ij (d8 h f hn' hl h2.2) fun z hz=>?_;rcases((u0 h f hn' hl h2.2).1 hz).or with e | e
    ·rcases nz.1 e with e | e
     ·rw[e];exact h5
     ·exact h.tr h5 (h1.1 z e)
    ·exact h2.1 z e
   ·have e0:a=b:=h.eq _ _ T;have hn':l.length+m.length<=n:=T;refine ij (d8 h f hn' h1.2 h2.2) fun z hz=>?_;rcases((u0 h f hn' h1.2 h2.2).1 hz).or with e | e
    ·exact h1.1 z e
    ·rw[e0];exact h2.1 z e
variable [DecidableEq α]
def u5(c:α->α->Int):List α->List α->List α
 | out,[]=>out
 | out,t::r=>u5 c (if t∈out then out else tg c t out) r
def p9(h:Ord3 c):∀ {l out:List α},Sst c out->Sst c (u5 c out l)
 | [],_,hs=>hs
 | t::r,out,hs=>by
  simp only[u5];refine p9 h ?_;split
  ·exact hs
  ·rename_i ht;exact d9 h hs ht
def dj{z:α}:∀ {l out:List α},z∈u5 c out l↔z∈out\/z∈l
 | [],_=>by simp [u5]
 | t::r,out=>by
  simp only[u5];rw[dj];split
  ·rename_i ht;constructor
   ·rintro(e | e)
    ·exact .inl e
    ·exact .inr (mc _ e)
   ·rintro(e | e)
    ·exact .inl e
    ·rcases nz.1 e with rfl | e
     ·exact .inl ht
     ·exact .inr e
  ·rw[u4,nz];constructor
   ·rintro((e | e) | e)
    ·exact .inr (.inl e)
    ·exact .inl e
    ·exact .inr (.inr e)
   ·rintro(e | e | e)
    ·exact .inl (.inr e)
    ·exact .inl (.inl e)
    ·exact .inr e
def bi:∀ (l out:List α),(u5 c out l).length<=out.length+l.length
 | [],_=>ns _
 | t::r,out=>by
  have:=bi r (if t∈out then out else tg c t out);simp only[u5];refine mw this ?_;split
  ·simp only[ny];omega
  ·rw[wv];simp only[ny];omega
end
end Go.V
section
open Go.V
attribute [local irreducible] Has N Par Ret RetL Src StepOK V VO X
namespace Go.V
def _root_.Z2(t:Wr Y->A:=by intro h;refine z7 (qo L Z Z Z Z) Z ?_;exact h.1)(h:Y):A:=t ⟨h⟩
def _root_.Zcf(t:Wr Y->A:=by intro h;refine z7 (qd Z Z Z Z) Z ?_;exact h.1)(h:Y):A:=t ⟨h⟩
def _root_.ZaL(t:Wr Y->A:=by intro h;refine z7 (qp L Z Z Z Z) Z ?_;exact h.1)(h:Y):A:=t ⟨h⟩
def _root_.Zt(t:Wr Y->A:=by intro h;refine z7 (yv Z Z Z Z) Z ?_;exact h.1)(h:Y):A:=t ⟨h⟩
def _root_.Zeg(t:Wr Y->A:=by intro h;refine z7 (yt (cs:=[_,_]) Z Z zj4 Z Z) Z ?_;exact h.1)(h:Y):A:=t ⟨h⟩
def _root_.Zcu(t:Wr Y->A:=by exact fun h=>(Zcf∘Zcf) h.1)(h:Y):A:=t ⟨h⟩
def _root_.Z1(t:Wr Y->A:=by exact fun h=>(Za∘Zcu) h.1)(h:Y):A:=t ⟨h⟩
def _root_.ZaH(t:Wr Y->A:=by exact fun h=>(Zv∘Zd) h.1)(h:Y):A:=t ⟨h⟩
def _root_.ZM(t:Wr Y->A:=by exact fun h=>(Zv∘Zc) h.1)(h:Y):A:=t ⟨h⟩
def _root_.ZaW(t:Wr Y->A:=by exact fun h=>(ZB∘Z2) h.1)(h:Y):A:=t ⟨h⟩
def _root_.Za8(t:Wr Y->A:=by exact fun h=>(Zv∘Zi) h.1)(h:Y):A:=t ⟨h⟩
def _root_.ZaI(t:Wr Y->A:=by exact fun h=>(Zb∘Zb) h.1)(h:Y):A:=t ⟨h⟩
def _root_.Zb9(t:Wr Y->A:=by exact fun h=>(Zx∘Zb) h.1)(h:Y):A:=t ⟨h⟩
def _root_.ZbH(t:Wr Y->A:=by exact fun h=>(ZB∘Zv) h.1)(h:Y):A:=t ⟨h⟩
def _root_.ZbV(t:Wr Y->A:=by exact fun h=>(Zl∘Zn) h.1)(h:Y):A:=t ⟨h⟩
def GlobM(B:Heap):Prop:=∃ m cs t fr,B 0=some (.cells cs t fr)/\cs[0]?=some (.int .i64 m)
def GlobM.of_cell{m:Int}(h:w.cell? ⟨0,0,none⟩=some (.int .i64 m)):GlobM (hp w):=by
 unfold World.cell? at h;split at h
 ·rename_i cs t fr hb;exact⟨m,cs,t,fr,hb,by simpa using h⟩
 ·cases h
def GlobM.mono(h:GlobM B)(hl:B.Le H):GlobM H:=let ⟨m,cs,t,fr,hb,hc⟩:=h;⟨m,cs,t,fr,hl _ _ hb,hc⟩
def po(s:ByteArray)(c:UInt8):ByteArray×ByteArray×Bool:=
 (⟨(Lib.cut s.data.toList [c]).1.toArray⟩,⟨(Lib.cut s.data.toList [c]).2.1.toArray⟩,(Lib.cut s.data.toList [c]).2.2)
def Us(s:ByteArray)(c:UInt8):Bool:=decide (0<=Lib.indexByte s.data.toList c)
def zjn(s:ByteArray)(c:UInt8):Nat:=Lib.countByte s.data.toList c
def da{s:ByteArray}{c:UInt8}{f:Bool}(hs:s.size<=1000000)(hB:zpg B w)(hM:GlobM B)(hf:(po s c).2.2=f):
  Ret zph 58 [.string s,.string ⟨#[c]⟩] w B (fun v _=>v=.tuple #[.string (po s c).1,.string (po s c).2.1,.bool f]):=by
 obtain⟨m,cs,t,fr,hb,hc⟩:=hM;subst hf;refine Ret.of_drawn hB (Tryz.strings_Cut s ⟨#[c]⟩ m w T ?_);rw[kf (hB _ _ hb)];exact hc
def we{s:ByteArray}{c:UInt8}{f:Bool}(hB:zpg B w)(hf:Us s c=f):
  Ret zph 59 [.string s,.string ⟨#[c]⟩] w B (fun v _=>v=.bool f):=by
 subst hf;exact Ret.of_same hB (Tryz.strings_Contains_one s c w)
def count_ret{s:ByteArray}{c:UInt8}(hB:zpg B w):
  Ret zph 187 [.string s,.string ⟨#[c]⟩] w B (fun v _=>v=.int .i64 (zjn s c)):=Ret.of_same hB (Tryz.strings_Count_one s c w)
def om(s:ByteArray)(c:UInt8):(po s c).1.size<=s.size/\(po s c).2.1.size<=s.size:=by
 unfold po Lib.cut;have hl:=uq s;have e:∀ l:List UInt8,(ByteArray.mk l.toArray).size=l.length:=fun l=>by show l.toArray.size=_;simp
 generalize s.data.toList=l at hl |-;rw[<-hl];split
 ·simp only[e,mi,m7];omega
 ·simp only[e,my];omega
def bl(s:ByteArray):Option (ByteArray×ByteArray×ByteArray×Bool):=
 if ((po s 58).2.2 && !Us (po s 58).1 35 && !Us (po s 58).2.1 58)=true/\zjn (po s 58).2.1 35<=1 then
  some ((po s 58).1,(po (po s 58).2.1 35).1,(po (po s 58).2.1 35).2.1,(po (po s 58).2.1 35).2.2)
 else none
def Ax{s a b c:ByteArray}{d:Bool}(h:bl s=some (a,b,c,d)):a.size<=s.size/\b.size<=s.size/\c.size<=s.size:=by
 unfold bl at h;split at h
 ·cases h;have h1:=om s 58;have h2:=om (po s 58).2.1 35;omega
 ·cases h
def E9{s:ByteArray}{f:Bool}(hs:s.size<=1000000)(hB:zpg B w)(hM:GlobM B)(hf:((po s 58).2.2 && !Us (po s 58).1 35 && !Us (po s 58).2.1 58)=f):
  Ret zph 186 [.string s,.string ⟨#[58]⟩] w B (fun v _=>v=.tuple #[.string (po s 58).1,.string (po s 58).2.1,.bool f]):=by
 subst hf;refine yh Tryz.func186 Z Tryz.ntmps186 (np Z) hB ?_;cases h1:(po s 58).2.2
 ·refine(ZbH∘Zv∘Zaf∘Zb) ?_;refine z71 L Z (fun u H hH hle=>da M hH (GlobM.mono M hle) M) ?_;refine(Z1∘Zcf∘Zv∘ZaH∘Zx∘ZaI∘Zbb∘Zdh∘ZbT∘Zv∘ZM) ?_;exact yg2 L [.tmp 4,.tmp 5,.tmp 6]
 ·cases h2:Us (po s 58).1 35
  ·cases h3:Us (po s 58).2.1 58
   ·refine(ZbH∘Zv∘Zaf∘Zb) ?_;refine z71 L Z (fun u H hH hle=>da M hH (GlobM.mono M hle) M) ?_;refine(Z1∘Zcf∘Zv∘ZaH∘Zb9∘ZF) ?_;refine z71 L Z (fun u H hH _=>we hH M) ?_;refine(Zt∘Zl∘Zb) ?_;refine z71 L Z (fun u H hH _=>we hH M) ?_;refine(Zt∘Zl∘Zv∘ZM) ?_;exact yg2 L [.tmp 4,.tmp 5,.tmp 6]
   ·refine(ZbH∘Zv∘Zaf∘Zb) ?_;refine z71 L Z (fun u H hH hle=>da M hH (GlobM.mono M hle) M) ?_;refine(Z1∘Zcf∘Zv∘ZaH∘Zb9∘ZF) ?_;refine z71 L Z (fun u H hH _=>we hH M) ?_;refine(Zt∘Zl∘Zb) ?_;refine z71 L Z (fun u H hH _=>we hH M) ?_;refine(Zt∘Zl∘Zv∘ZM) ?_;exact yg2 L [.tmp 4,.tmp 5,.tmp 6]
  ·refine(ZbH∘Zv∘Zaf∘Zb) ?_;refine z71 L Z (fun u H hH hle=>da M hH (GlobM.mono M hle) M) ?_;refine(Z1∘Zcf∘Zv∘ZaH∘Zb9∘ZF) ?_;refine z71 L Z (fun u H hH _=>we hH M) ?_;refine(Zt∘Zl∘ZbT∘Zv∘ZM) ?_;exact yg2 L [.tmp 4,.tmp 5,.tmp 6]
def P1{s:ByteArray}(hs:s.size<=1000000)(hB:zpg B w)(hM:GlobM B)(h:bl s=none):
  Ret zph 123 [.string s] w B (fun v _=>v=.tuple #[.agg #[.string ⟨#[]⟩,.string ⟨#[]⟩],.string ⟨#[]⟩,.bool false,.bool false]):=by
 refine yh Tryz.func123 Z Tryz.ntmps123 (np Z) hB ?_;unfold bl at h;cases h1:((po s 58).2.2 && !Us (po s 58).1 35 && !Us (po s 58).2.1 58)
 ·refine(ZaW∘Zv∘Zv∘Zaf∘Zd∘Zb9) ?_;refine z71 L Z (fun u H hH hle=>E9 M hH (GlobM.mono M hle) M) ?_;refine(Z1∘Zcf∘Zv∘Za8∘Zp∘Zt∘ZbT∘Zu∘ZS∘Zeg∘ZaL∘Zv∘ZM) ?_;refine yg1 L [.cell 2 52,.tmp 3,.tmp 4,.tmp 5] fun u H hH hle=>?_;exact⟨_,qw Z,rfl,rfl⟩
 ·have h2:¬ zjn (po s 58).2.1 35<=1:=fun h2=>by rw[na ⟨h1,h2⟩] at h;cases h
  clear h;refine(ZaW∘Zv∘Zv∘Zaf∘Zd∘Zb9) ?_;refine z71 L Z (fun u H hH hle=>E9 M hH (GlobM.mono M hle) M) ?_;refine(Z1∘Zcf∘Zv∘Za8∘Zp∘Zt∘Zb) ?_;refine z71 L Z (fun u H hH _=>count_ret hH) ?_;refine(ZO∘ZbS∘ZS∘Zeg∘ZaL∘Zv∘ZM) ?_;refine yg1 L [.cell 2 52,.tmp 3,.tmp 4,.tmp 5] fun u H hH hle=>?_;exact⟨_,qw Z,rfl,rfl⟩
def Pz{s a b c:ByteArray}{d:Bool}(hs:s.size<=1000000)(hB:zpg B w)(hM:GlobM B)(h:bl s=some (a,b,c,d)):
  Ret zph 123 [.string s] w B (fun v _=>v=.tuple #[.agg #[.string a,.string b],.string c,.bool d,.bool true]):=by
 refine yh Tryz.func123 Z Tryz.ntmps123 (np Z) hB ?_;unfold bl at h;split at h
 ·rename_i hc;obtain⟨h1,h2⟩:=hc;cases h;have hz:=om s 58;have hz2:(po s 58).2.1.size<=1000000:=T;refine(ZaW∘Zv∘Zv∘Zaf∘Zd∘Zb9) ?_;refine z71 L Z (fun u H hH hle=>E9 M hH (GlobM.mono M hle) M) ?_;refine(Z1∘Zcf∘Zv∘Za8∘Zp∘Zt∘Zb) ?_;refine z71 L Z (fun u H hH _=>count_ret hH) ?_;refine(ZJ∘ZbV∘ZT) ?_;refine z71 L Z (fun u H hH hle=>da M hH (GlobM.mono M hle) Z) ?_;refine(Z1∘Zcf∘Zv∘ZaH∘ZbG∘Zeg∘Zb∘ZaL∘Zv∘ZM) ?_;refine yg1 L [.cell 2 52,.tmp 3,.tmp 4,.tmp 5] fun u H hH hle=>?_;exact⟨_,qw Z,rfl,rfl⟩
 ·cases h
def _root_.Zq(t:Wr Y->A:=by intro h;refine z7 (yi Z Z Z Z (ng T)) Z ?_;exact h.1)(h:Y):A:=t ⟨h⟩
def _root_.ZG(t:Wr Y->A:=by intro h;refine z7 (yi Z Z Z Z (nf T)) Z ?_;exact h.1)(h:Y):A:=t ⟨h⟩
def _root_.Zcl(t:Wr Y->A:=by intro h;refine z7 (zx L (vs:=[_,_]) (qw Z) Z Z Z Z ⟨_,rfl⟩) Z ?_;exact h.1)(h:Y):A:=t ⟨h⟩
def _root_.Zdy(t:Wr Y->A:=by intro h;refine z71 L Z (fun u H hH hle=>Pz M hH (GlobM.mono M hle) M) ?_;exact h.1)(h:Y):A:=t ⟨h⟩
def _root_.Zdz(t:Wr Y->A:=by intro h;refine z7 (zx L (vs:=[_,_,_]) (qw Z) Z Z Z Z ⟨_,rfl⟩) Z ?_;exact h.1)(h:Y):A:=t ⟨h⟩
def _root_.ZdF(t:Wr Y->A:=by intro h;refine z7 (yt (cs:=[_,_,_]) Z Z zkv Z Z) Z ?_;exact h.1)(h:Y):A:=t ⟨h⟩
def _root_.ZdT(t:Wr Y->A:=by intro h;refine z7 (yt (cs:=[_,_,_]) Z Z zj3 Z Z) Z ?_;exact h.1)(h:Y):A:=t ⟨h⟩
def _root_.Zo(t:Wr Y->A:=by exact fun h=>(Zx∘Za) h.1)(h:Y):A:=t ⟨h⟩
def _root_.Zaj(t:Wr Y->A:=by exact fun h=>(Z2∘ZaL) h.1)(h:Y):A:=t ⟨h⟩
def _root_.Zay(t:Wr Y->A:=by exact fun h=>(Zg∘Zf) h.1)(h:Y):A:=t ⟨h⟩
def _root_.Z8(t:Wr Y->A:=by exact fun h=>(ZK∘Za) h.1)(h:Y):A:=t ⟨h⟩
def _root_.ZaQ(t:Wr Y->A:=by exact fun h=>(ZaL∘Zc) h.1)(h:Y):A:=t ⟨h⟩
def _root_.Zbv(t:Wr Y->A:=by exact fun h=>(Zaf∘Za) h.1)(h:Y):A:=t ⟨h⟩
def _root_.Zb3(t:Wr Y->A:=by exact fun h=>(Za5∘Zn) h.1)(h:Y):A:=t ⟨h⟩
def _root_.ZbA(t:Wr Y->A:=by exact fun h=>(Zaj∘Zay) h.1)(h:Y):A:=t ⟨h⟩
def _root_.Zfg(t:Wr Y->A:=by intro h;refine Zbv (h:=?_);refine z71 L Z (fun u H hH hle=>P1 M hH (GlobM.mono M hle) M) ?_;exact h.1)(h:Y):A:=t ⟨h⟩
abbrev s6:ByteArray:=⟨#[]⟩
def poA(s:ByteArray):ByteArray×ByteArray×Int:=
 match bl s with
 | none=>(s6,s6,5)
 | some (a,b,_,d)=>if d=true then (s6,s6,5) else if p7 [a,b]=0 then (a,b,0) else (s6,s6,p7 [a,b])
def pgA(s:ByteArray):ByteArray×ByteArray×ByteArray×Int:=
 match bl s with
 | none=>(s6,s6,s6,5)
 | some (a,b,c,d)=>if d=false then (s6,s6,s6,5) else if p7 [a,b,c]=0 then (a,b,c,0) else (s6,s6,s6,p7 [a,b,c])
def psA(s:ByteArray):ByteArray×ByteArray×ByteArray×Int:=
 match bl s with
 | none=>(s6,s6,s6,5)
 | some (a,b,c,d)=>if p7 [a,b]=0 then (if d=true then (if chk c=0 then (a,b,c,0) else (s6,s6,s6,chk c)) else (a,b,c,0)) else (s6,s6,s6,p7 [a,b])
def zgu{s:ByteArray}(hr:pgA s=r)(hs:s.size<=1000000)(hB:zpg B w)(hM:GlobM B):
  Ret zph 60 [.string s] w B (fun v _=>v=.tuple #[.agg #[.string r.1,.string r.2.1,.string r.2.2.1],.int .i64 r.2.2.2]):=by
 refine yh Tryz.func60 Z Tryz.ntmps60 (np Z) hB ?_;unfold pgA at hr
 cases hp:bl s with
 | none=>
  rw[hp] at hr;simp only at hr;subst hr;refine(ZaW∘Zfg∘Z1∘Zcu∘Zaj∘Zv∘Za8∘Zo∘Zt∘ZaF∘ZbS∘ZI∘ZdT∘ZaQ) ?_;refine yg1 L [.cell 2 54,.tmp 3] fun u H hH hle=>?_;exact⟨_,qw Z,rfl,rfl⟩
 | some p=>
  obtain⟨a,b,c,d⟩:=p;rw[hp] at hr;simp only at hr;have hz:=Ax hp;have ha:a.size<=1099511627776:=T;have hb:b.size<=1099511627776:=T;have hc:c.size<=1099511627776:=T
  cases d with
  | false=>
   rw[na rfl] at hr;subst hr;refine(ZaW∘Zbv∘Zdy∘Z1∘Zcu∘Zaj∘Zv∘Za8∘Zo∘Zt∘Zb∘Zt∘ZbS∘ZI∘ZdT∘ZaQ) ?_;refine yg1 L [.cell 2 54,.tmp 3] fun u H hH hle=>?_;exact⟨_,qw Z,rfl,rfl⟩
  | true=>
   rw[nc E] at hr;by_cases h0:p7 [a,b,c]=0
   ·rw[na h0] at hr;subst hr;refine(ZaW∘Zbv∘Zdy∘Z1∘Zcu∘Zaj∘Zv∘Za8∘Zo∘Zt∘Zb∘Zt∘ZbV∘ZS∘Zcl∘Za∘ZdT∘ZbA∘ZE∘Zdz) ?_;refine z71 L Z (fun u H hH _=>goal_ret Q Q Q hH) ?_;refine(Zd∘ZL∘Zb3∘ZC∘Zdz∘ZaQ) ?_;refine yg1 L [.cell 2 54,.tmp 3] fun u H hH hle=>?_;exact⟨_,qw Z,rfl,rfl⟩
   ·rw[nc h0] at hr;subst hr;refine(ZaW∘Zbv∘Zdy∘Z1∘Zcu∘Zaj∘Zv∘Za8∘Zo∘Zt∘Zb∘Zt∘ZbV∘ZS∘Zcl∘Za∘ZdT∘ZbA∘ZE∘Zdz) ?_;refine z71 L Z (fun u H hH _=>goal_ret Q Q Q hH) ?_;refine(Zd∘ZL∘ZaG∘ZK∘ZdT∘Za∘ZaQ) ?_;refine yg1 L [.cell 2 54,.tmp 3] fun u H hH hle=>?_;exact⟨_,qw Z,rfl,rfl⟩
def zgn{s:ByteArray}(hr:psA s=r)(hs:s.size<=1000000)(hB:zpg B w)(hM:GlobM B):
  Ret zph 61 [.string s] w B (fun v _=>v=.tuple #[.agg #[.string r.1,.string r.2.1,.string r.2.2.1],.int .i64 r.2.2.2]):=by
 refine yh Tryz.func61 Z Tryz.ntmps61 (np Z) hB ?_;unfold psA at hr
 cases hp:bl s with
 | none=>
  rw[hp] at hr;simp only at hr;subst hr;refine(ZaW∘Zfg∘Z1∘Zcu∘Zaj∘Zv∘Za8∘Zo∘Zt∘Zu∘ZI∘ZdF∘ZaQ) ?_;refine yg1 L [.cell 2 55,.tmp 3] fun u H hH hle=>?_;exact⟨_,qw Z,rfl,rfl⟩
 | some p=>
  obtain⟨a,b,c,d⟩:=p;rw[hp] at hr;simp only at hr;have hz:=Ax hp;have ha:a.size<=1099511627776:=T;have hb:b.size<=1099511627776:=T;have hc:c.size<=1099511627776:=T;by_cases h0:p7 [a,b]=0
  ·rw[na h0] at hr
   cases d with
   | false=>
    rw[nc E] at hr;subst hr;refine(ZaW∘Zbv∘Zdy∘Z1∘Zcu∘Zaj∘Zv∘Za8∘Zo∘Zt∘Zn∘ZS∘Zcl) ?_;refine z71 L Z (fun u H hH _=>pt Q Q hH) ?_;refine(Zi∘ZE∘Zb∘Zbb∘Zl∘Z4∘Z8∘Zb3∘Zat∘Zcl∘Za∘ZdF∘ZaQ) ?_;refine yg1 L [.cell 2 55,.tmp 3] fun u H hH hle=>?_;exact⟨_,qw Z,rfl,rfl⟩
   | true=>
    rw[na rfl] at hr;by_cases h1:chk c=0
    ·rw[na h1] at hr;subst hr;refine(ZaW∘Zbv∘Zdy∘Z1∘Zcu∘Zaj∘Zv∘Za8∘Zo∘Zt∘Zn∘ZS∘Zcl) ?_;refine z71 L Z (fun u H hH _=>pt Q Q hH) ?_;refine(Zi∘ZE∘ZF∘ZG∘Zl∘ZD∘ZL∘Zes∘Zi∘Z8∘Zb3∘Zat∘Zcl∘Za∘ZdF∘ZaQ) ?_;refine yg1 L [.cell 2 55,.tmp 3] fun u H hH hle=>?_;exact⟨_,qw Z,rfl,rfl⟩
    ·rw[nc h1] at hr;subst hr;refine(ZaW∘Zbv∘Zdy∘Z1∘Zcu∘Zaj∘Zv∘Za8∘Zo∘Zt∘Zn∘ZS∘Zcl) ?_;refine z71 L Z (fun u H hH _=>pt Q Q hH) ?_;refine(Zi∘ZE∘ZF∘ZG∘Zl∘ZD∘ZL∘Zes∘Zi∘Z8∘ZaG∘ZC∘ZdF∘Za∘ZaQ) ?_;refine yg1 L [.cell 2 55,.tmp 3] fun u H hH hle=>?_;exact⟨_,qw Z,rfl,rfl⟩
  ·rw[nc h0] at hr;subst hr;cases d
   ·refine(ZaW∘Zbv∘Zdy∘Z1∘Zcu∘Zaj∘Zv∘Za8∘Zo∘Zt∘Zn∘ZS∘Zcl) ?_;refine z71 L Z (fun u H hH _=>pt Q Q hH) ?_;refine(Zi∘ZE∘Zb∘Zbb∘Zl∘Z4∘Z8∘ZaG∘ZC∘ZdF∘Za∘ZaQ) ?_;refine yg1 L [.cell 2 55,.tmp 3] fun u H hH hle=>?_;exact⟨_,qw Z,rfl,rfl⟩
   ·refine(ZaW∘Zbv∘Zdy∘Z1∘Zcu∘Zaj∘Zv∘Za8∘Zo∘Zt∘Zn∘ZS∘Zcl) ?_;refine z71 L Z (fun u H hH _=>pt Q Q hH) ?_;refine(Zi∘ZE∘ZF∘Zq∘Zl∘Z4∘Z8∘ZaG∘ZC∘ZdF∘Za∘ZaQ) ?_;refine yg1 L [.cell 2 55,.tmp 3] fun u H hH hle=>?_;exact⟨_,qw Z,rfl,rfl⟩
def zdu{s:ByteArray}{e:Int}(hr:pgA s=(a,b,c,e))(hs:s.size<=1000000)(hB:zpg B w)(hM:GlobM B):
  Ret zph 60 [.string s] w B (fun v _=>v=.tuple #[.agg #[.string a,.string b,.string c],.int .i64 e]):=zgu hr hs hB hM
def Sj{s:ByteArray}{e:Int}(hr:psA s=(a,b,c,e))(hs:s.size<=1000000)(hB:zpg B w)(hM:GlobM B):
  Ret zph 61 [.string s] w B (fun v _=>v=.tuple #[.agg #[.string a,.string b,.string c],.int .i64 e]):=zgn hr hs hB hM
end Go.V
end
namespace Go.V.L2
open Go.V
abbrev U:=gj×gj
def ucs(t:U):List Value:=[.string t.1.1.1,.string t.1.1.2,.string t.1.2,.string t.2.1.1,.string t.2.1.2,.string t.2.2]
def ej(t:U):(ucs t).length=6:=rfl
def kq:U->U->Int:=Rh Ki Ki
def cmpT_ord:Ord3 kq:=cmp3_ord.lex cmp3_ord
def zkk{t v:U}:(t.1.1.1=v.1.1.1/\t.1.1.2=v.1.1.2/\t.1.2=v.1.2/\t.2.1.1=v.2.1.1/\t.2.1.2=v.2.1.2/\t.2.2=v.2.2)↔t=v:=
 ⟨fun⟨a,b,c,d,e,f⟩=>Prod.ext (Prod.ext (Prod.ext a b) c) (Prod.ext (Prod.ext d e) f),fun e=>by subst e;exact⟨rfl,rfl,rfl,rfl,rfl,rfl⟩⟩
instance memU(t:U)(l:List U):Decidable (t∈l):=decidable_of_iff (l.any (fun x=>decide (x=t))=true) (by simp)
def tE(t:U):Int:=if p7 [t.1.1.1,t.1.1.2,t.1.2]=0 then B8 t.2.1.1 t.2.1.2 t.2.2 else p7 [t.1.1.1,t.1.1.2,t.1.2]
def TZ(t:U):Prop:=(t.1.1.1.size<=1099511627776/\t.1.1.2.size<=1099511627776/\t.1.2.size<=1099511627776)/\t.2.1.1.size<=1099511627776/\t.2.1.2.size<=1099511627776/\t.2.2.size<=1099511627776
instance (t:U):Decidable (TZ t):=inferInstanceAs (Decidable (_/\_))
def Dy{α:Type}{c:α->α->Int}(h:Ord3 c):∀ {l:List α},Sst c l↔∀ (j:Nat) (a b:α),l[j]?=some a->l[j+1]?=some b->c a b<0
 | []=>⟨fun _ j a b h1 _=>by simp at h1,fun _=>Sst.nil⟩
 | [x]=>⟨fun _ j a b _ h2=>by simp at h2,fun _=>zmi ..⟩
 | x::y::l=>by
  constructor
  ·intro hs j a b h1 h2;have hp:=mg.1 hs
   cases j with
   | zero=>simp at h1 h2;subst h1 h2;exact hp.1 _ (mb ..)
   | succ j=>exact(Dy h).1 hp.2 j a b (by simpa using h1) (by simpa using h2)
  ·intro hj;have hl:Sst c (y::l):=(Dy h).2 fun j a b h1 h2=>hj (j+1) a b (by simpa using h1) (by simpa using h2);have hxy:c x y<0:=hj 0 x y rfl rfl;refine mg.2 ⟨fun z hz=>?_,hl⟩;rcases nz.1 hz with rfl | hz
   ·exact hxy
   ·exact h.tr hxy ((mg.1 hl).1 z hz)
instance {α:Type}(c:α->α->Int)(l:List α):Decidable (Sst c l):=inferInstanceAs (Decidable (l.Pairwise _))
def isB(l:List U):Bool:=decide (Sst kq l)
def zhi{l:List U}{a b:U}(h1:l[j]?=some a)(h2:l[j+1]?=some b)(h:¬ kq a b<0):isB l=false:=ng fun hs=>h ((Dy cmpT_ord).1 hs j a b h1 h2)
def zej{l:List U}(h:∀ j a b,l[j]?=some a->l[j+1]?=some b->kq a b<0):isB l=true:=nf ((Dy cmpT_ord).2 h)
def ptA(s:ByteArray):U×Int:=
 if (po s 64).2.2=true/\Us (po s 64).2.1 64=false then
  (if (pgA (po s 64).1).2.2.2=0 then
   (if (psA (po s 64).2.1).2.2.2=0 then
    (((((pgA (po s 64).1).1,(pgA (po s 64).1).2.1),(pgA (po s 64).1).2.2.1),(((psA (po s 64).2.1).1,(psA (po s 64).2.1).2.1),(psA (po s 64).2.1).2.2.1)),0)
   else ((((⟨#[]⟩,⟨#[]⟩),⟨#[]⟩),((⟨#[]⟩,⟨#[]⟩),⟨#[]⟩)),(psA (po s 64).2.1).2.2.2))
  else ((((⟨#[]⟩,⟨#[]⟩),⟨#[]⟩),((⟨#[]⟩,⟨#[]⟩),⟨#[]⟩)),(pgA (po s 64).1).2.2.2))
 else ((((⟨#[]⟩,⟨#[]⟩),⟨#[]⟩),((⟨#[]⟩,⟨#[]⟩),⟨#[]⟩)),5)
end Go.V.L2
namespace Go.V
def zsL(P:Program)(e:TypeId)(k:Nat):List Value:=match P.info? e with
 | some i=>match i.zero with
  | some z=>(madeCells z.cells k).toList
  | none=>[]
 | none=>[]
def Cd(h:elI P e=some (s,by_)):(zsL P e k).length=k:=by
 obtain⟨i,z,hi,hz,_,_,_,_⟩:=w8 h;unfold zsL;rw[hi];dsimp only;rw[hz];simp [size_madeCells]
def SlE(e:TypeId)(s n:Nat)(xs:List Value):Res where
 P x _ u C:=xs.length=n*s/\((n=0/\x=.slice none 0 0/\∀ k,¬ C k)\/∃ b,x=.slice (some ⟨b,0,none⟩) n n/\u.heap[b]?=some (.cells xs.toArray e)/\n<=maxLen/\∀ k,C k↔k=b)
 st:=fun⟨hl,h⟩ _ _ _ hk=>⟨hl,by
  rcases h with h | ⟨b,h1,h2,h3,h4⟩
  ·exact .inl h
  ·exact .inr ⟨b,h1,(hk b ((h4 b).2 rfl)).trans h2,h3,h4⟩⟩
section
variable             {a:Act}      
def Ei(L:Tabs P){kl kc:IntKind}(c:Nat){q:Int}(hn:Nat.blt d n=true)(hg:gK ops κ ⟨some d,.makeSlice t x y,ty,pos,aft,g⟩=some true)(ht:L.sl t=some e)(he:elI P e=some (s,by_))
  (hx:evK κ x=some (.int kl q)) (hy:evK κ y=some (.int kc p)) (hq:q=c) (hp:p=c) (hb:by_*c<=281474976710656) (hc:c<=maxLen):StepOK P F B n ops O κ ⟨some d,.makeSlice t x y,ty,pos,aft,g⟩ d (.own (SlE e s c (zsL P e (c*s)))):=by
 rintro κ' a u hl ⟨H,fp,hh⟩;unfold After;rw[na (xf hh hl hg)];have en:=hh.env hl;have hzl:=Cd (k:=c*s) he;obtain⟨i,z,hi,hz,hs1,hs2,hs3,hs4⟩:=w8 he;have h1:=en.is_ x _ (by simp [Op.operands]) hx;have h2:=en.is_ y _ (by simp [Op.operands]) hy;subst hp;subst hq
 have hb':(i.bytes:Int)*(c:Int)<=281474976710656:=by
  have h:((by_*c:Nat):Int)<=281474976710656:=T;rw[hs2];rwa [Int.natCast_mul] at h
 have h63:(c:Int)<=9223372036854775807:=by simp [maxLen] at hc;omega
 have hr:=run_make (P:=P) u t e i z (Tabs.sl_spec ht) hi hz kl kc c c T T hb' h63;simp only[zlp] at hr
 have hrun:(execOp a.eval ⟨some d,.makeSlice t x y,ty,pos,aft,g⟩).run P u=.ok (.value (.slice (some ⟨u.heap.size,0,none⟩) c c)) (u.alloc (.cells (madeCells z.cells (c*i.size)) e)):=by
  simp only[execOp,h1,h2,nu,hr,ma];rfl
 rw[hrun];simp only[Upon]
 have hzs:zsL P e (c*s)=(madeCells z.cells (c*i.size)).toList:=by
  unfold zsL;rw[hi];dsimp only;rw[hz,hs1]
 have hg2:=hh.grow (Grow.hid hh.sub (.cells (madeCells z.cells (c*i.size)) e));refine⟨H,_,hg2.putR (C:=fun k=>k=u.heap.size) (by simp [Act.put]) Z (fun t ht=>xn ht) ⟨hzl,.inr ⟨u.heap.size,xx (by rw[hh.size];exact zn hn),by rw[xu,hzs],hc,fun _=>Iff.rfl⟩⟩ (fun k hk=>?_) fun t r' _ ht k hf hk=>?_⟩
 ·subst hk;exact⟨xb (xu u _),k7 hh.sub (ns _),.inl hh.keep.size,fun y hy e=>by have:=xb (hh.boxes y hy).1;omega⟩
 ·have:=((hh.slot t _ ht).2 k hf).1;omega
def Has.boxE{t:Nat}(hm:0<m)(hk:κ t=some (.own (SlE e s m xs)))(h:Has F B O n κ a u):
  ∃ b,(xs.length=m*s/\m<=maxLen)/\Has F B (bx b xs e::O) n (upd κ t (.is (.slice (some ⟨b,0,none⟩) m m))) a u:=by
 obtain⟨H,fp,h⟩:=h;obtain⟨⟨hl,hv⟩,hM⟩:=h.slot t _ hk;rcases hv with ⟨h0,_,_⟩ | ⟨b,hv,hb,h4,hC⟩
 ·omega
 ·have:=h.toBox hk hb ((hC b).2 rfl);rw[hv] at this;exact⟨b,⟨hl,h4⟩,H,fp,this⟩
def Has.unboxE{t b:Nat}{O1 O2:Boxes}(hO:O=O1++bx b xs e::O2)(hd:F.ds=[])(hk:κ t=some (.is (.slice (some ⟨b,0,none⟩) m m)))(hl:xs.length=m*s)(h4:m<=maxLen)
  (h:Has F B O n κ a u):Has F B (O1++O2) n (upd κ t (.own (SlE e s m xs))) a u:=by
 obtain⟨H,fp,h⟩:=h;subst hO;have hb:=(h.boxes (bx b xs e) (by simp)).1;exact⟨H,_,h.ofBox (by rw[hd];simp) ⟨hl,.inr ⟨b,h.slot t _ hk,hb,h4,fun _=>Iff.rfl⟩⟩⟩
def zh5(t:Nat){c:Code}(hm:0<m)(hk:κ t=some (.own (SlE e s m xs)))
  (h:∀ b,(xs.length=m*s/\m<=maxLen)->V P F B n (bx b xs e::O) (upd κ t (.is (.slice (some ⟨b,0,none⟩) m m))) c zpf):V P F B n O κ c zpf:=fun a u hh=>
 let ⟨b,h1,h'⟩:=hh.boxE hm hk;h b h1 a u h'
def zbq(t:Nat){b:Nat}(O1:Boxes){O2:Boxes}{c:Code}(hO:O=O1++bx b xs e::O2)(hk:κ t=some (.is (.slice (some ⟨b,0,none⟩) m m)))(hl:xs.length=m*s)(h4:m<=maxLen)
  (h:V P F B n (O1++O2) (upd κ t (.own (SlE e s m xs))) c zpf) (hd:F.ds=[]:=by rfl):V P F B n O κ c zpf:=fun a u hh=>h a u (hh.unboxE hO hd hk hl h4)
def Has.pubE{t:Nat}(hk:κ t=some (.own (SlE e s m xs)))(h:Has F B O n κ a u):Has F B O n (upd κ t (.sat (SlV e s xs m true))) a u:=by
 obtain⟨H,fp,h⟩:=h;obtain⟨⟨hl,hv⟩,hM⟩:=h.slot t _ hk;rcases hv with ⟨rfl,hv,hC⟩ | ⟨b,hv,hb,h4,hC⟩
 ·have hx:xs=[]:=mz (by simpa using hl);subst hx;have h2:=h.name t;rw[hv] at h2;have h3:Has F B O n (upd κ t (.is (.slice none 0 0))) a u:=⟨H,fp,h2⟩
  have h4:=h3.seen (t:=t) (SlV e s [] 0 true) (xj _ _ _) nw ⟨by simp,.inl ⟨rfl,_,rfl⟩⟩;rw[jo] at h4;exact h4
 ·obtain⟨H',h'⟩:=h.pub (φ:=SlV e s xs m true) hk hb ((hC b).2 rfl) nw fun H' _ hb'=>⟨hl,.inr ⟨b,0,m,_,_,(0,0),hv,hb',by simp,ns _,fun _=>rfl⟩⟩
  exact⟨H',fp,h'⟩
def zcn(t:Nat){c:Code}(hk:κ t=some (.own (SlE e s m xs)))(h:V P F B n O (upd κ t (.sat (SlV e s xs m true))) c zpf):V P F B n O κ c zpf:=fun a u hh=>h a u (hh.pubE hk)
def zgl{f:α->List Value}(hf:∀ a,(f a).length=s)(l:List α)(k m:Nat)(zs:List Value)(y:α)(hl:l.length=k)(hz:zs.length=(m-k)*s)(hk:k<m):
  (l.flatMap f++zs).take (k*s)++(f y++(l.flatMap f++zs).drop (k*s+s))=(l++[y]).flatMap f++zs.drop s:=by
 have h1:(l.flatMap f).length=k*s:=by
  subst hl;clear hz hk
  induction l with
  | nil=>simp
  | cons x l ih=>rw[zl3,nr,hf,ih,ny,zl6,Nat.one_mul];omega
 have h2:s<=zs.length:=by rw[hz];exact Nat.le_mul_of_pos_left _ T
 rw[<-h1,znd,zmg]
 ·rw[zlf T,mh,show(l.flatMap f).length+s-(l.flatMap f).length=s by omega,zlq];simp
 ·rfl
def zfh(w:World)(r:Res)(v:Value)(H:Heap)(u:World):Prop:=∃ C:Nat->Prop,r.P v H u C/\∀ k,C k->w.heap.size<=k/\k<u.heap.size/\H k=none
def RetO(P:Program)(f:FuncId)(args:List Value)(w:World)(B:Heap)(r:Res):Prop:=RetL P f args w B noL (zfh w r)
def wt(L:Tabs P){r:Res}{fo:Operand}
  (hop:o.op=.call { callee:=.value fo,args:=args,argTypes:=at_ }) (hd:o.dst=some d) (hn:d<n) (hg:gK ops κ o=some true)
  (hf:evK κ fo=some (.func (.func f) #[] cap.toArray)) (hfn:L.fn f=some ())
  (h:∀ u H,zpg H u->B.Le H->Below F.w0.heap.size F.w0 F.w0->Args κ H args.toList [] (fun vs=>RetO P f (vs++cap) u H r)):
  StepOK P F B n ops O κ o d (.own r):=by
 rintro κ' a u hl ⟨H,fp,hh⟩;unfold After;rw[na (xf hh hl hg)];have e:=hh.env hl;have hfe:a.eval fo=.func (.func f) #[] cap.toArray:=e.is_ fo _ (by simp [hop,Op.operands,Call.operands]) hf;have hc:=Args.use e args.toList [] (fun x hx=>by simp [hop,Op.operands,Call.operands] at hx |-;exact .inr hx) (h u H e.sub e.base (Below.refl _ _));simp only[zmb,mh] at hc;rw[vr L hop hfe hfn];simp only[Upon];refine Calls.mono hc fun e' u' hp=>?_;obtain⟨v,rfl,H',g',C,hv,hC⟩:=hp;have h2:=hh.grow g';refine⟨v,rfl,?_⟩;simp only[hd];refine⟨H',_,h2.putR (C:=C) (by simp [Act.put]) Z (fun t ht=>xn ht) (by rw[xx (by rw[hh.size];exact hn)];exact hv) (fun k hk=>?_) fun t r' _ ht k hf hk=>?_⟩
 ·obtain⟨h3,h4,h5⟩:=hC k hk;exact⟨h4,h5,.inl (mw hh.keep.size h3),fun y hy e=>by have:=xb (hh.boxes y hy).1;omega⟩
 ·have h3:=(hC k hk).1;have:=((hh.slot t _ ht).2 k hf).1;omega
def lm{fn:Func}{t:Nat}{r:Res}(hrs:fn.results=#[.tmp t])(hQ:∀ a u,bodyPostM Fence.wide 0 P fn (ft F.w0 B0 F.L (zfh F.w0 r)) .ret a u->zpf .ret a u)(hs:Since F B0 B)(hk:κ t=some (.own r))(hL:F.L=noL:=by rfl)(hm:Xk F.ds=true:=by rfl):V P F B n O κ .ret zpf:=
 O3 hQ hs (hm:=hm) fun O' a u H fp _ hh=>by
  obtain⟨hown,hM⟩:=hh.slot t _ hk;refine⟨a.eval (.tmp t),?_,fp t,hown,fun k hk=>?_⟩
  ·simp [results,hrs,Act.eval]
  ·obtain⟨h1,h2,h3,_⟩:=hM k hk;refine⟨?_,h1,h2⟩;rcases h3 with h3 | h3
   ·exact h3
   ·have h3':F.L k:=h3;rw[hL] at h3';exact h3'.elim
open Classical in
noncomputable def joinH (H:Heap) (u:World) (C:Nat->Prop):Heap:=fun k=>if C k then hp u k else H k
def cj(h:C k):joinH H u C k=hp u k:=na h
def lh(h:¬ C k):joinH H u C k=H k:=nc h
def i9(h:zpg H u):(joinH H u C).Le (hp u):=fun k v hv=>by
 by_cases hc:C k
 ·rwa [cj hc] at hv
 ·rw[lh hc] at hv;exact h _ _ hv
def Ev(h:∀ k,C k->H k=none):H.Le (joinH H u C):=fun k v hv=>by
 by_cases hc:C k
 ·rw[h k hc] at hv;cases hv
 ·rwa [lh hc]
def zju(r:Res)(φ:Value->Heap->Prop):Prop:=∀ x H u C,r.P x H u C->φ x (joinH H u C)
def pj:zju (SlE e s m xs) (SlV e s xs m true):=fun x H u C ⟨hl,h⟩=>⟨hl,by
 rcases h with ⟨h0,hv,_⟩ | ⟨b,hv,hb,h3,hC⟩
 ·exact .inl ⟨h0,_,hv⟩
 ·exact .inr ⟨b,0,m,_,_,_,hv,(cj ((hC b).2 rfl)).trans hb,by simp,ns _,fun _=>rfl⟩⟩
def zb6(q:Nat)(l:List Operand):Bool:=l.any fun x=>match x with | .tmp t=>Nat.beq t q | _=>false
def RetO.toRet{f:FuncId}{args:List Value}{r:Res}(h:RetO P f args w B r)(hl:zju r φ):Ret P f args w B φ:=
 Calls.mono h fun _ u ⟨v,he,H,g,C,h1,h2⟩=>⟨v,he,joinH H u C,⟨g.keep,i9 g.sub,fun k x hx=>Ev (fun k hk=>(h2 k hk).2.2) _ _ (g.le _ _ hx),fun k hk hn=>(lh fun hc=>by have:=(h2 k hc).1;omega).trans (g.fresh k hk hn)⟩,hl _ _ _ _ h1⟩
def j7{f:FuncId}{fn:Func}{c:Code}{args:List Value}{r:Res}(hf:P.funcs[f]?=some fn)(hb:fn.body=some c)(hn:fn.ntmps=n)
  (hs:args.length<=n) (hB:zpg B w) (h:V P (Fr.pure w) B n [] (rm 0 args) c (bodyPostM Fence.wide 0 P fn (ft w B noL (zfh w r)))):RetO P f args w B r:=
 dv hf hb (h _ w ⟨B,fun _=>noL,by subst hn;exact dt noL (fun _ h=>h.elim) hs hB _⟩)
end
end Go.V
namespace Go.V
def xk(b:Nat)(cs:List Value)(ty:TypeId):Res where
 P _ _ u C:=u.heap[b]?=some (.cells cs.toArray ty)/\∀ k,C k↔k=b
 st:=fun⟨h1,h2⟩ _ _ _ hk=>⟨(hk b ((h2 b).2 rfl)).trans h1,h2⟩
section
variable             {a:Act}      
def Has.hold{t:Nat}(hk:κ t=some (.own (Cell cs ty)))(h:Has F B O n κ a u):∃ b,Has F B O n (upd (upd (upd κ t fm) q (.own (xk b cs ty))) t (.is (.pointer (some ⟨b,0,none⟩)))) a u:=by
 obtain⟨H,fp,h⟩:=h;obtain⟨⟨b,hv,hb,hC⟩,hM⟩:=h.slot t _ hk;have h2:=h.usePut (d:=q) (a':=a) (r':=xk b cs ty) (C:=fp t) hk ⟨Keep.refl _ _,h.sub,mo _,fun _ _ _=>rfl⟩ rfl rfl (fun _ _=>rfl) ⟨hb,hC⟩ fun k hk=>⟨.inl hk,(hM k hk).1,(hM k hk).2.1⟩
 have h3:=h2.name t;rw[hv] at h3;exact⟨b,H,_,h3⟩
def Has.release{t b:Nat}(hk:κ q=some (.own (xk b cs ty)))(ht:κ t=some (.is (.pointer (some ⟨b,0,none⟩))))(h:Has F B O n κ a u):Has F B O n (upd (upd κ q fm) t (.own (Cell cs ty))) a u:=by
 obtain⟨H,fp,h⟩:=h;obtain⟨⟨hb,hC⟩,hM⟩:=h.slot q _ hk;have hx:a.eval (.tmp t)=.pointer (some ⟨b,0,none⟩):=h.slot t _ ht;exact⟨H,_,h.usePut (d:=t) (a':=a) (r':=Cell cs ty) (C:=fp q) hk ⟨Keep.refl _ _,h.sub,mo _,fun _ _ _=>rfl⟩ Z Z (fun _ _=>rfl) ⟨b,hx,hb,hC⟩ fun k hk=>⟨.inl hk,(hM k hk).1,(hM k hk).2.1⟩⟩
def kz(t q:Nat){c:Code}(hk:κ t=some (.own (Cell cs ty)))(h:∀ b,V P F B n O (upd (upd (upd κ t fm) q (.own (xk b cs ty))) t (.is (.pointer (some ⟨b,0,none⟩)))) c zpf):V P F B n O κ c zpf:=fun a u hh=>let ⟨b,h'⟩:=hh.hold (q:=q) hk;h b a u h'
def dy(t q:Nat){b:Nat}{c:Code}(hk:κ q=some (.own (xk b cs ty)))(ht:κ t=some (.is (.pointer (some ⟨b,0,none⟩))))(h:V P F B n O (upd (upd κ q fm) t (.own (Cell cs ty))) c zpf):V P F B n O κ c zpf:=fun a u hh=>h a u (hh.release hk ht)
def StepOKR(P:Program)(F:Fr)(B:Heap)(n:Nat)(ops:Array Oper)(O:Boxes)(κ:Kap)(o:Oper)(q d:Nat)(k:Kn):Prop:=
 ∀ κ' a u,(∀ t∈o.looksAt ops,κ' t=κ t)->κ' q=κ q->Has F B O n κ' a u->After P ops o (fun a' u'=>Has F B O n (upd κ' d k) a' u') a u
def qz{k:Kn}(hs:StepOKR P F B n ops O κ o q d k)(h:VO P F B n O ops (upd κ d k) os zpf):VO P F B n O ops κ (o::os) zpf:=
 fun a u hh=>After.mono (fun a' u' hh'=>h a' u' hh') (hs κ a u (fun _ _=>rfl) rfl hh)
def qn{k:Kn}(hs:StepOKR P F B n ops O κ o q d k)(hd:vd o=some d)(he:(exR ex o).contains q=true)(h:Par P F B n O ops ex (upd κ d k) os zpf):Par P F B n O ops ex κ (o::os) zpf:=by
 have hm:q∈exR ex o:=by simpa using he
 refine⟨[(d,k)],fun p hp=>?_,fun κ' a u hl hh=>hs κ' a u (fun t ht=>hl t (zlt _ ht)) (hl q (zma _ (zma _ hm))) hh,h⟩;simp only[nz,zmw,or_false] at hp;subst hp;exact zlt _ (by simp [hd])
def ic(P:Program)(F:Fr)(B:Heap)(n:Nat)(ops:Array Oper)(O:Boxes)(κ:Kap)(o:Oper)(q:Nat)(k:Kn):Prop:=
 ∀ κ' a u,(∀ t∈o.looksAt ops,κ' t=κ t)->κ' q=κ q->Has F B O n κ' a u->After P ops o (fun a' u'=>Has F B O n (upd κ' q k) a' u') a u
def xh{k:Kn}(hs:ic P F B n ops O κ o q k)(h:VO P F B n O ops (upd κ q k) os zpf):VO P F B n O ops κ (o::os) zpf:=
 fun a u hh=>After.mono (fun a' u' hh'=>h a' u' hh') (hs κ a u (fun _ _=>rfl) rfl hh)
def xl{k:Kn}(hs:ic P F B n ops O κ o q k)(he:(exO ex o).contains q=true)(h:Par P F B n O ops ex (upd κ q k) os zpf):Par P F B n O ops ex κ (o::os) zpf:=by
 have hm:q∈exO ex o:=by simpa using he
 refine⟨[(q,k)],fun p hp=>?_,fun κ' a u hl hh=>hs κ' a u (fun t ht=>hl t (zlt _ ht)) (hl q (zma _ (zlt _ hm))) hh,h⟩;simp only[nz,zmw,or_false] at hp;subst hp;exact zma _ hm
def xr(L:Tabs P)(q:Nat){r:Res}{Φ:Heap->Prop}{d f:Nat}{c:Value}{fo:Operand}
  (hop:o.op=.call { callee:=.value fo,args:=args,argTypes:=at_ }) (hd:o.dst=some d) (hn:d<n) (hg:gK ops κ o=some true)
  (hf:evK κ fo=some (.func (.func f) #[] cap.toArray)) (hfn:L.fn f=some ()) (hq:κ q=some (.own r)) (hm:zb6 q o.op.operands.toList=false) (hl:∀ v H u C,r.P v H u C->Φ (joinH H u C))
  (h:∀ u H,zpg H u->B.Le H->Φ H->Args κ H args.toList [] (fun vs=>Ret P f (vs++cap) u H (fun v _=>v=c))):
  StepOKR P F B n ops O κ o q d (.is c):=by
 rintro κ' a u hlk hqk ⟨H,fp,hh⟩;unfold After;rw[na (xf hh hlk hg)];have e:=hh.env hlk;have hfe:a.eval fo=.func (.func f) #[] cap.toArray:=e.is_ fo _ (by simp [hop,Op.operands,Call.operands]) hf;obtain⟨hown,hM⟩:=hh.slot q _ (hqk.trans hq);have hle:H.Le (joinH H u (fp q)):=Ev fun k hk=>(hM k hk).2.1
 have hqo:∀ t,Operand.tmp t∈o.op.operands->t≠q:=fun t ht e=>by
  subst e;have:zb6 t o.op.operands.toList=true:=zn5.2 ⟨Operand.tmp t,by simpa using ht,Nat.beq_refl t⟩;rw[this] at hm;cases hm
 have e1:Env F B O κ o a u (joinH H u (fp q)) fp:=by
  refine⟨e.is_,fun t ψ ht hk=>?_,fun t r' ht hk=>?_,i9 hh.sub,fun k v hv=>hle _ _ (hh.base _ _ hv),fun y hy=>?_,hh.keep⟩
  ·have hk':κ' t=some (.sat ψ):=(hlk t (pf ht)).trans hk;exact hh.mono t _ hk' _ _ _ (e.sat_ t ψ ht hk) hle
  ·obtain⟨h1,h2⟩:=e.own_ t r' ht hk;have hk':κ' t=some (.own r'):=(hlk t (pf ht)).trans hk;refine⟨r'.st h1 hle (i9 hh.sub) ⟨rfl,rfl,rfl,ns _,ns _⟩ fun _ _=>rfl,fun k hk2=>?_⟩;obtain⟨g1,g2,g3,g4⟩:=h2 k hk2;exact⟨g1,(lh (hh.owns t q r' _ (hqo t ht) hk' (hqk.trans hq) k hk2)).trans g2,g3,g4⟩
  ·obtain⟨h1,h2,h3⟩:=e.boxes y hy;exact⟨h1,(lh fun hc=>(hM _ hc).2.2.2 y hy Z).trans h2,h3⟩
 have hc:=Args.use e1 args.toList [] (fun x hx=>by simp [hop,Op.operands,Call.operands] at hx |-;exact .inr hx) (h u (joinH H u (fp q)) e1.sub e1.base (hl _ _ _ _ hown));simp only[zmb,mh] at hc;rw[vr L hop hfe hfn];simp only[Upon];refine Calls.mono hc fun e' u' hp=>?_;obtain⟨v,rfl,H',g',hv⟩:=hp;refine⟨v,rfl,?_⟩;simp only[hd]
 have g2:Grow noL u H u' H:=⟨g'.keep,fun k x hx=>by
  have h1:=hh.sub _ _ hx;exact(g'.keep.block k (xb h1) fun h=>h).trans h1,mo _,fun _ _ _=>rfl⟩
 exact⟨H,fp,(hh.grow g2).put (k:=.is c) hn trivial hv⟩
def xq(L:Tabs P){q b:Nat}{t t':TypeId}{s off:Nat}{cs vs:List Value}(eqs:(evK κ x,κ q,Nat.blt d n)=(some (.pointer (some ⟨b,off,none⟩)),some (.own (xk b cs t')),true))(hg:gK ops κ ⟨some d,.load t x,ty,pos,aft,g⟩=some true)
  (hl:L.ld t=some (true,s)) (hlen:vs.length=s) (hc:∃ r,cs.drop off=vs++r):StepOKR P F B n ops O κ ⟨some d,.load t x,ty,pos,aft,g⟩ q d (.is (.agg vs.toArray)):=by
 obtain⟨hx,hq,hn⟩:=EQ3 eqs;rintro κ' a u hlk hqk ⟨H,fp,hh⟩;unfold After;rw[na (xf hh hlk hg)];have e:=hh.env hlk;have h1:=e.is_ x _ (by simp [Op.operands]) hx;obtain⟨⟨h2,hC⟩,hM⟩:=hh.slot q _ (hqk.trans hq);obtain⟨r,hc⟩:=hc
 have hrun:(execOp a.eval ⟨some d,.load t x,ty,pos,aft,g⟩).run P u=.ok (.value (.agg vs.toArray)) u:=by
  simp only[execOp,h1,Instr.loadAt,Instr.sureAddr,nu,me,ma]
  rw[wm (Tabs.ld_spec hl) u _ vs hlen (fun j v hj=>by
   have h3:cs[off+j]?=some v:=by
    have:=nh (·[j]?) hc;simp only[zlo] at this
    rw[this,zl2 (by
     rcases m5 j vs.length with h | h
     ·exact h
     ·rw[zld h] at hj;cases hj)]
    exact hj
   show u.cell? (Addr.add ⟨b,off,none⟩ j)=some v;have:Addr.add ⟨b,off,none⟩ j=⟨b,off+j,none⟩:=by simp [Addr.add]
   rw[this,kf h2];simpa using h3)]
  rfl
 rw[hrun];simp only[Upon];exact⟨H,fp,hh.put (k:=.is (.agg vs.toArray)) (zn hn) trivial Z⟩
def qb(L:Tabs P){b:Nat}{r:List Value}(eqs:(evK κ x,κ q,Nat.blt d n)=(some (.pointer (some ⟨b,off,none⟩)),some (.own (xk b cs t')),true))(hg:gK ops κ ⟨some d,.load t x,ty,pos,aft,g⟩=some true)
  (hl:L.ld t=some (false,s)) (hc:cs.drop off=v::r):StepOKR P F B n ops O κ ⟨some d,.load t x,ty,pos,aft,g⟩ q d (.is v):=by
 obtain⟨hx,hq,hn⟩:=EQ3 eqs;rintro κ' a u hlk hqk ⟨H,fp,hh⟩;unfold After;rw[na (xf hh hlk hg)];have e:=hh.env hlk;have h1:=e.is_ x _ (by simp [Op.operands]) hx;obtain⟨⟨h2,hC⟩,hM⟩:=hh.slot q _ (hqk.trans hq)
 have h3:cs[off]?=some v:=by
  have:=nh (·[0]?) hc;simpa using this
 have hrun:(execOp a.eval ⟨some d,.load t x,ty,pos,aft,g⟩).run P u=.ok (.value v) u:=by
  simp only[execOp,h1,Instr.loadAt,Instr.sureAddr,nu,me,ma];rw[uz (Tabs.ld_spec hl) u _ v (by rw[kf h2];simpa using h3)];rfl
 rw[hrun];simp only[Upon];exact⟨H,fp,hh.put (k:=.is v) (zn hn) trivial Z⟩
def ye(L:Tabs P){z b:Nat}{p:Operand}{cs':List Value}(hg:gK ops κ ⟨none,.store t p x,ty,pos,aft,g⟩=some true)
  (eqs:(evK κ p,κ q,evK κ x,L.ld t,(kx v).length)=(some (.pointer (some ⟨b,off,none⟩)),some (.own (xk b cs t')),some v,some (ag,z),z)) (hcs:Nat.ble (off+z) cs.length=true) (hpl:(kx v).all vj=true) (hr:cs.take off++(kx v++cs.drop (off+z))=cs'):
  ic P F B n ops O κ ⟨none,.store t p x,ty,pos,aft,g⟩ q (.own (xk b cs' t')):=by
 obtain⟨hp,hq,hx,hl,hlen⟩:=EQ5 eqs;rintro κ' a u hlk hqk ⟨H,fp,hh⟩;subst hr;unfold After;rw[na (xf hh hlk hg)];have e:=hh.env hlk;have hev:=e.is_ x v (by simp [Op.operands]) hx;have hes:=e.is_ p _ (by simp [Op.operands]) hp;have hqs:=hqk.trans hq;obtain⟨⟨hb,hC⟩,hM⟩:=hh.slot q _ hqs
 have hrun:(execOp a.eval ⟨none,.store t p x,ty,pos,aft,g⟩).run P u=.ok .skip (u.setRow b (cs.take off++(kx v++cs.drop (off+z))).toArray):=by
  simp only[execOp,hes,hev,Instr.storeAt,Instr.sureAddr,nu,me,ma];have:=uy (P:=P) (off:=off) (Tabs.ld_spec hl) hb hlen (np hcs) hpl;rw[this];simp
 rw[hrun];simp only[Upon,Act.put];have hset:=setRow_heap u b cs.toArray (cs.take off++(kx v++cs.drop (off+z))).toArray t' (0,0) hb;have hbm:=hM b ((hC b).2 rfl)
 have:=hh.usePut (d:=q) (a':=a) (r':=xk b (cs.take off++(kx v++cs.drop (off+z))) t') (C:=fun k=>k=b) hqs (ww hh.sub hb ((hC b).2 rfl) hbm.2.1 _) rfl rfl (fun _ _=>rfl) ⟨hset,fun _=>Iff.rfl⟩ (fun k hk=>by
  subst hk;exact⟨.inl ((hC k).2 rfl),by rw[setRow_size];exact hbm.1,hbm.2.1⟩)
 rw[jo] at this;exact⟨H,_,this⟩
def zff(t q:Nat){c:Code}(hm:0<m)(hk:κ t=some (.own (SlE e s m xs)))
  (h:∀ b,xs.length=m*s->V P F B n O (upd (upd (upd κ t fm) q (.own (xk b xs e))) t (.is (.slice (some ⟨b,0,none⟩) m m))) c zpf):V P F B n O κ c zpf:=fun a u hh=>by
 obtain⟨H,fp,hh⟩:=hh;obtain⟨⟨hl,hv⟩,hM⟩:=hh.slot t _ hk;rcases hv with ⟨h0,_,_⟩ | ⟨b,hv,hb,h4,hC⟩
 ·omega
 ·have h2:=hh.usePut (d:=q) (a':=a) (r':=xk b xs e) (C:=fp t) hk ⟨Keep.refl _ _,hh.sub,mo _,fun _ _ _=>rfl⟩ rfl rfl (fun _ _=>rfl) ⟨hb,hC⟩ fun k hk=>⟨.inl hk,(hM k hk).1,(hM k hk).2.1⟩
  have h3:=h2.name t;rw[hv] at h3;exact h b hl a u ⟨H,_,h3⟩
def Qe(L:Tabs P)(hn:Nat.blt d n=true)(hg:gK ops κ ⟨some d,.call ⟨.builtin .append,#[x,y],#[t,t]⟩,ty,pos,aft,g⟩=some true)
  (hx:evK κ x=some (.slice none 0 0)) (hy:Apd F B O κ y m news) (ht:L.sl t=some e) (he:elI P e=some (s,by_)) (hl:news.length=m*s) (h1:news.all vj=true) (hb:m*by_<=140737488355328) (h63:m<=9223372036854775807):
  StepOK P F B n ops O κ ⟨some d,.call ⟨.builtin .append,#[x,y],#[t,t]⟩,ty,pos,aft,g⟩ d (.own (SlR e s m news)):=by
 rintro κ' a u hlk ⟨H,fp,hh⟩;unfold After;rw[na (xf hh hlk hg)];have en:=hh.env hlk;obtain⟨i,z,hi,hz,hs1,hs2,hs3,hs4⟩:=w8 he;have hxe:=en.is_ x _ (by simp [Op.operands,Call.operands]) hx;obtain⟨x',u',C',hr,hown',hgr,hC'⟩:=By (C:=noL) (xs:=[]) (nn:=0) (x:=.slice none 0 0) u (aty:=ty) (Tabs.sl_spec ht) hi hz hs1 hs2 hs3 hs4 hh.sub ⟨by simp,.inl ⟨rfl,rfl,fun _ h=>h⟩⟩ (fun k hk=>hk.elim) (hy _ a u H fp (by simp [Op.operands,Call.operands]) en) hl (fun v hv=>g7 (zlj.1 h1 v hv)) T (by rw[zlb];exact hb);rw[zlb,mh] at hown'
 have hrun:(execOp a.eval ⟨some d,.call ⟨.builtin .append,#[x,y],#[t,t]⟩,ty,pos,aft,g⟩).run P u=.ok (.value x') u':=by
  simp only[execOp,resolve,invoke,builtin,nu,me,ma,zlv,mp,zlm,hxe,hr]
 rw[hrun];simp only[Upon];have h2:=hh.grow hgr;refine⟨H,_,h2.putR (C:=C') (by simp [Act.put]) Z (fun t ht=>xn ht) (by rw[xx (by rw[hh.size];exact zn hn)];exact hown') (fun k hk=>?_) fun t r' _ ht k hf hk=>?_⟩
 ·obtain⟨h3,h4,h5⟩:=hC' k hk;have h3':u.heap.size<=k:=h3.resolve_left fun h=>h;exact⟨h4,h5,.inl (mw hh.keep.size h3'),fun y hy e=>by have:=xb (hh.boxes y hy).1;omega⟩
 ·have h3':u.heap.size<=k:=(hC' k hk).1.resolve_left fun h=>h;have:=((hh.slot t _ ht).2 k hf).1;omega
end
end Go.V
section
open Go.V
attribute [local irreducible] Has N Par Ret RetL Src StepOK V VO X
namespace Go.V.L2
def _root_.Zj(t:Wr Y->A:=by intro h;refine z8 (ze Z Z Z) Z ?_;exact h.1)(h:Y):A:=t ⟨h⟩
def _root_.Zcv(t:Wr Y->A:=by intro h;refine z8 (yd L _ Z Z Z Z (by first | omega | decide) M) Z ?_;exact h.1)(h:Y):A:=t ⟨h⟩
def _root_.Za9(t:Wr Y->A:=by intro h;refine z8 (yk L (vs:=[_,_,_,_,_,_]) Z Z Z Z Z ⟨_,rfl⟩) Z ?_;exact h.1)(h:Y):A:=t ⟨h⟩
def _root_.Zc9(t:Wr Y->A:=by intro h;refine z8 (yp Z Z Z Z M) Z ?_;exact h.1)(h:Y):A:=t ⟨h⟩
def _root_.ZaA(t:Wr Y->A:=by intro h;refine z8 (q0 Z Z Z) Z ?_;exact h.1)(h:Y):A:=t ⟨h⟩
def _root_.ZA(t:Wr Y->A:=by intro h;refine zh (id:=10) ?_;exact h.1)(h:Y):A:=t ⟨h⟩
def _root_.Zcm(t:Wr Y->A:=by intro h;refine z7 (yt (cs:=[_,_,_,_,_,_]) Z Z zj2 Z Z) Z ?_;exact h.1)(h:Y):A:=t ⟨h⟩
def _root_.Zd0(t:Wr Y->A:=by intro h;refine z8 (zx L (vs:=[_,_,_]) (y9 Z) Z Z Z Z ⟨_,rfl⟩) Z ?_;exact h.1)(h:Y):A:=t ⟨h⟩
def _root_.Zda(t:Wr Y->A:=by intro h;refine qg (id:=4) [] mixed J ?_;exact h.1)(h:Y):A:=t ⟨h⟩
def _root_.ZdG(t:Wr Y->A:=by intro h;refine z8 (Nn Z Z Z Z (ng T)) Z ?_;exact h.1)(h:Y):A:=t ⟨h⟩
def _root_.ZdH(t:Wr Y->A:=by intro h;refine z8 (Nn Z Z Z Z (nf T)) Z ?_;exact h.1)(h:Y):A:=t ⟨h⟩
def _root_.ZeQ(t:Wr Y->A:=by intro h;refine z71 L Z (fun u H hH hle=>zdu (by first | assumption | rfl) Q hH (GlobM.mono M hle)) ?_;exact h.1)(h:Y):A:=t ⟨h⟩
def _root_.Zfh(t:Wr Y->A:=by intro h;refine z71 L Z (fun u H hH _=>Ku Q Q Q hH) ?_;exact h.1)(h:Y):A:=t ⟨h⟩
def _root_.Zfi(t:Wr Y->A:=by intro h;refine z71 L Z (fun u H hH hle=>Sj (by first | assumption | rfl) Q hH (GlobM.mono M hle)) ?_;exact h.1)(h:Y):A:=t ⟨h⟩
def _root_.Ze(t:Wr Y->A:=by exact fun h=>(Zf∘Zf) h.1)(h:Y):A:=t ⟨h⟩
def _root_.ZbI(t:Wr Y->A:=by exact fun h=>(Zv∘ZN) h.1)(h:Y):A:=t ⟨h⟩
def _root_.Zaz(t:Wr Y->A:=by exact fun h=>(Zb1∘Zee) h.1)(h:Y):A:=t ⟨h⟩
def _root_.Zb4(t:Wr Y->A:=by exact fun h=>(Zb1∘Zer) h.1)(h:Y):A:=t ⟨h⟩
def _root_.Zag(t:Wr Y->A:=by exact fun h=>(Zab∘ZD) h.1)(h:Y):A:=t ⟨h⟩
def _root_.Za3(t:Wr Y->A:=by exact fun h=>(Zac∘ZZ) h.1)(h:Y):A:=t ⟨h⟩
def _root_.Zdj(t:Wr Y->A:=by exact fun h=>(ZaA∘Zj) h.1)(h:Y):A:=t ⟨h⟩
def _root_.ZaR(t:Wr Y->A:=by exact fun h=>(Zc∘Zak) h.1)(h:Y):A:=t ⟨h⟩
def _root_.Zbh(t:Wr Y->A:=by exact fun h=>(Zd∘Zo) h.1)(h:Y):A:=t ⟨h⟩
def _root_.Zb5(t:Wr Y->A:=by exact fun h=>(Zdj∘Zcv) h.1)(h:Y):A:=t ⟨h⟩
def _root_.ZbW(t:Wr Y->A:=by exact fun h=>(ZaE∘ZbI) h.1)(h:Y):A:=t ⟨h⟩
abbrev uv(t:U):Value:=.agg #[.string t.1.1.1,.string t.1.1.2,.string t.1.2,.string t.2.1.1,.string t.2.1.2,.string t.2.2]
abbrev tyU:TypeId:=57
abbrev US(l:List U)(fu:Bool):Value->Heap->Prop:=SlV tyU 6 (l.flatMap ucs) l.length fu
def d6{l:List U}{t:U}(h:l[i]?=some t):((l.flatMap ucs).drop (i*6)).take 6=[.string t.1.1.1,.string t.1.1.2,.string t.1.2,.string t.2.1.1,.string t.2.1.2,.string t.2.2]:=ut ej l i t h
def kr{t:U}(hz:TZ t)(hB:zpg B w):Ret zph 104 [uv t] w B (fun v _=>v=.int .i64 (tE t)):=by
 obtain⟨⟨z1,z2,z3⟩,z4,z5,z6⟩:=hz;unfold tE;refine yh Tryz.func104 Z Tryz.ntmps104 (np Z) hB ?_;by_cases h:p7 [t.1.1.1,t.1.1.2,t.1.2]=0
 ·rw[na h];refine(Z7∘Zah∘ZQ∘Zcz) ?_;refine z71 L Z (fun u H hH _=>goal_ret Q Q Q hH) ?_;refine(Zbh∘Zb3∘ZS∘ZQ∘Zcz∘Zfh∘Zc) ?_;exact yg2 L [.tmp 2]
 ·rw[nc h];refine(Z7∘Zah∘ZQ∘Zcz) ?_;refine z71 L Z (fun u H hH _=>goal_ret Q Q Q hH) ?_;refine(Zbh∘ZaG∘Zp∘Zc) ?_;exact yg2 L [.tmp 2]
def jh{a b:U}(hB:zpg B w):Ret zph 74 [uv a,uv b] w B (fun v _=>v=.int .i64 (kq a b)):=by
 refine yh Tryz.func74 Z Tryz.ntmps74 (np Z) hB ((Za2∘Zd∘Zc0∘Zb0∘Zd0∘Zb0∘Zd0) ?_);refine z81 L Z (fun u H hH _=>tq hH) ?_;refine(Zb0∘Zd0∘Zb0∘Zd0) ?_;refine z81 L Z (fun u H hH _=>cmpU_ret hH) ?_;refine Zdi (h:=?_);refine z8 (zz L Z Z (zn Z) Z Z Z (fun u H hH _ _ v hv=>Eh hH hv)) Z (ZaP (h:=?_));exact yg2 L [.tmp 4]
def Pj{s:ByteArray}{r:U×Int}(hr:ptA s=r)(hs:s.size<=1000000)(hB:zpg B w)(hM:GlobM B):
  Ret zph 17 [.string s] w B (fun v _=>v=.tuple #[uv r.1,.int .i64 r.2]):=by
 subst hr;have hz:=om s 64;have hz1:(po s 64).1.size<=1000000:=T;have hz2:(po s 64).2.1.size<=1000000:=T;unfold ptA;refine yh Tryz.func17 Z Tryz.ntmps17 (np Z) hB ?_;cases h1:(po s 64).2.2
 ·rw[nc (fun h=>by cases h.1)];refine(ZaW∘Zbv) ?_;refine z71 L Z (fun u H hH hle=>da M hH (GlobM.mono M hle) M) ?_;refine(Z1∘Zcf∘Zv∘Za8∘Zo∘Zt∘ZaF∘ZbS∘ZI∘Zcm∘ZaQ) ?_;refine yg1 L [.cell 2 57,.tmp 3] fun u H hH hle=>?_;exact⟨_,qw Z,rfl,rfl⟩
 ·cases h2:Us (po s 64).2.1 64
  ·rw[na ⟨rfl,rfl⟩];rcases hp:pgA (po s 64).1 with ⟨a,b,c,e⟩
   dsimp only;by_cases he:e=0
   ·rw[na he];rcases hq:psA (po s 64).2.1 with ⟨a',b',c',e'⟩
    dsimp only;by_cases he':e'=0
    ·rw[na he'];refine(ZaW∘Zbv) ?_;refine z71 L Z (fun u H hH hle=>da M hH (GlobM.mono M hle) M) ?_;refine(Z1∘Zcf∘Zv∘Za8∘Zo∘Zt∘Zb) ?_;refine z71 L Z (fun u H hH _=>we hH M) ?_;refine(ZbV∘Z9∘ZeQ∘Z1∘Zaj∘Zi∘ZT∘Zb3∘Z8∘Zfi∘Z1∘Zaj∘Zi∘Zbe∘Zb3∘ZA∘Zdz∘Zdz∘Zcm∘ZaQ) ?_;refine yg1 L [.cell 2 57,.tmp 3] fun u H hH hle=>?_;exact⟨_,qw Z,rfl,rfl⟩
    ·rw[nc he'];refine(ZaW∘Zbv) ?_;refine z71 L Z (fun u H hH hle=>da M hH (GlobM.mono M hle) M) ?_;refine(Z1∘Zcf∘Zv∘Za8∘Zo∘Zt∘Zb) ?_;refine z71 L Z (fun u H hH _=>we hH M) ?_;refine(ZbV∘Z9∘ZeQ∘Z1∘Zaj∘Zi∘ZT∘Zb3∘Z8∘Zfi∘Z1∘Zaj∘Zi∘Zbe∘ZaG∘Zat∘Zcm∘Za∘ZaQ) ?_;refine yg1 L [.cell 2 57,.tmp 3] fun u H hH hle=>?_;exact⟨_,qw Z,rfl,rfl⟩
   ·rw[nc he];refine(ZaW∘Zbv) ?_;refine z71 L Z (fun u H hH hle=>da M hH (GlobM.mono M hle) M) ?_;refine(Z1∘Zcf∘Zv∘Za8∘Zo∘Zt∘Zb) ?_;refine z71 L Z (fun u H hH _=>we hH M) ?_;refine(ZbV∘Z9∘ZeQ∘Z1∘Zaj∘Zi∘ZT∘ZaG∘Zaw∘Zcm∘Za∘ZaQ) ?_;refine yg1 L [.cell 2 57,.tmp 3] fun u H hH hle=>?_;exact⟨_,qw Z,rfl,rfl⟩
  ·rw[nc (fun h=>by cases h.2)];refine(ZaW∘Zbv) ?_;refine z71 L Z (fun u H hH hle=>da M hH (GlobM.mono M hle) M) ?_;refine(Z1∘Zcf∘Zv∘Za8∘Zo∘Zt∘Zb) ?_;refine z71 L Z (fun u H hH _=>we hH M) ?_;refine(ZbS∘ZI∘Zcm∘ZaQ) ?_;refine yg1 L [.cell 2 57,.tmp 3] fun u H hH hle=>?_;exact⟨_,qw Z,rfl,rfl⟩
def ek{l:List U}{fu:Bool}(hl:l.length<=1000000){r:Bool}(hr:isB l=r){v:Value}(hB:zpg B w)(hv:US l fu v B):
  Ret zph 32 [v] w B (fun v _=>v=.bool r):=by
 subst hr;refine yh Tryz.func32 Z Tryz.ntmps32 (np Z) hB (k8 0 (US l fu) Z nw hv ((ZB∘Zah∘ZaR) ?_))
 refine xm (fun i:Nat=>[(0,.sat (US l fu)),(3,.is (.int .i64 (i+1:Nat)))])
  (fun i=>∀ j a b,j<i->l[j]?=some a->l[j+1]?=some b->kq a b<0) (fun i=>l.length-i) 0 (fun j a b h=>by omega) ⟨rfl,rfl,nm⟩ ?_
 rintro i hall;by_cases hlt:i+1<l.length
 ·obtain⟨a,ha⟩:=xi (show i<l.length by omega);obtain⟨b,hb⟩:=xi hlt;have hca:=d6 ha;have hcb:=d6 hb;have hsub:IntKind.i64.wrap (((i+1:Nat):Int)-1)=(i:Int):=yy T T |>.trans T;by_cases hc:kq a b<0
  ·refine(Ze∘Zo∘Zh∘Zag∘Zbl∘Zda∘Zdj∘Zc9∘Zcv∘Za9∘Zb5∘Za9) ?_;refine z81 L Z (fun u H hH _=>jh hH) ?_;refine(ZdG∘Zaz∘Zbj∘ZP∘Zp∘ZbW) ?_
   exact yn (x:=i) (i+1) (fun j a' b' hj h1 h2=>by
    by_cases hji:j=i
    ·subst hji;rw[ha] at h1;rw[hb] at h2;cases h1;cases h2;exact hc
    ·exact hall j a' b' T h1 h2) T ⟨Z,Z,nm⟩
  ·rw[zhi ha hb hc];refine(Ze∘Zo∘Zh∘Zag∘Zbl∘Zda∘Zdj∘Zc9∘Zcv∘Za9∘Zb5∘Za9) ?_;refine z81 L Z (fun u H hH _=>jh hH) ?_;refine(ZdH∘Zb4∘Zf∘ZE∘Zc) ?_;exact yg2 L [.tmp 2]
 ·rw[zej fun j a b h1 h2=>hall j a b (by
   have:j+1<l.length:=by
    rcases m5 (j+1) l.length with h | h
    ·exact h
    ·rw[zld h] at h2;cases h2
   omega) h1 h2]
  refine(Ze∘Zo∘Zh∘Za3∘ZaD∘Zaw∘Zc) ?_;exact yg2 L [.tmp 2]
end Go.V.L2
namespace Go.V
def max2(a b:ByteArray):(if chk b>chk a then chk b else chk a)=p7 [a,b]:=by
 simp only[p7];rcases fk a with h | h<;>rcases fk b with h' | h'<;>simp [h,h']
end Go.V
namespace Go.V.L2
def Fi:∀ (l:List ByteArray),p7 l=0\/p7 l=6
 | []=>.inl rfl
 | s::l=>by
  simp only[p7];split
  ·exact Fi l
  ·rename_i h;exact .inr ((fk s).resolve_left h)
def Rv(a b c:ByteArray):B8 a b c=0\/B8 a b c=6:=by
 unfold B8;split<;>exact Fi _
def eqU{t v:U}{r:Bool}(e:decide (t=v)=r):ay [0,0,0,0,0,0] [.string t.1.1.1,.string t.1.1.2,.string t.1.2,.string t.2.1.1,.string t.2.1.2,.string t.2.2] [.string v.1.1.1,.string v.1.1.2,.string v.1.2,.string v.2.1.1,.string v.2.1.2,.string v.2.2]=some r:=by
 subst e;simp only[ay,eqC];have h:=@zkk t v;by_cases hh:t=v
 ·subst hh;simp
 ·rw[ng hh];have h':=fun x=>hh (h.1 x);by_cases a1:t.1.1.1=v.1.1.1
  ·by_cases a2:t.1.1.2=v.1.1.2
   ·by_cases a3:t.1.2=v.1.2
    ·by_cases a4:t.2.1.1=v.2.1.1
     ·by_cases a5:t.2.1.2=v.2.1.2
      ·by_cases a6:t.2.2=v.2.2
       ·exact ni ⟨a1,a2,a3,a4,a5,a6⟩ h'
       ·simp [a6]
      ·simp [a5]
     ·simp [a4]
    ·simp [a3]
   ·simp [a2]
  ·simp [a1]
def eq3{g h:gj}{r:Bool}(e:decide (g=h)=r):ay [0,0,0] [.string g.1.1,.string g.1.2,.string g.2] [.string h.1.1,.string h.1.2,.string h.2]=some r:=
 zjk (by rw[<-e];exact decide_eq_decide.2 ⟨fun⟨a,b,c⟩=>Prod.ext (Prod.ext a b) c,fun e=>by subst e;exact⟨rfl,rfl,rfl⟩⟩)
def Hz{a b:U}(h:a.1≠b.1):kq a b=Ki a.1 b.1:=by
 unfold kq Rh;rw[Yr,if_neg fun e=>h (cmp3_ord.eq _ _ e)]
def Ve{a b:U}(h:a.1=b.1):kq a b=Ki a.2 b.2:=by
 unfold kq Rh;rw[Yr,if_pos (by rw[h];exact cmp3_ord.refl _)]
def Cj{l:List α}{g:α}(h:l[k]?=some g):l.take (k+1)=l.take k++[g]:=by rw[zlc,h];rfl
def ol{l:List α}{g:α}(h:l[k]?=some g):l.drop k=g::l.drop (k+1):=by
 obtain⟨hl,he⟩:=zl5.1 h;rw[zl9 hl,he]
def Xv{r:List U}{t:U}(h:κ s=some (.own (SlR tyU 6 (r.length+1) (r.flatMap ucs++[.string t.1.1.1,.string t.1.1.2,.string t.1.2,.string t.2.1.1,.string t.2.1.2,.string t.2.2])))):κ s=some (.own (SlR tyU 6 (r++[t]).length ((r++[t]).flatMap ucs))):=by
 rw[h,zlq,nr];rfl
end Go.V.L2
namespace Go.V.Top
open Go.V.L2
def _root_.ZdU(t:Wr Y->A:=by intro h;refine z8 (Lv Z Z Z Z zjl M Z) Z ?_;exact h.1)(h:Y):A:=t ⟨h⟩
def _root_.Zd1(t:Wr Y->A:=by intro h;refine qg (id:=6) [] mixed J ?_;exact h.1)(h:Y):A:=t ⟨h⟩
def Pk{a b:List U}{fa fb:Bool}(hla:a.length<=1000000)(hlb:b.length<=1000000){e:Int}(he:(if a=b then 1 else 0:Int)=e){va vb:Value}(hB:zpg B w)(ha:US a fa va B)(hb:US b fb vb B):
  Ret zph 33 [va,vb] w B (fun v _=>v=.int .i64 e):=by
 subst he;refine yh Tryz.func33 Z Tryz.ntmps33 (np Z) hB (k8 0 (US a fa) Z nw ha (k8 1 (US b fb) Z nw hb ?_));by_cases hlen:a.length=b.length
 ·refine(ZB∘Zah∘Zh∘Zh∘Za5∘Z4∘ZI∘ZaR) ?_
  refine xm (fun i:Nat=>[(0,.sat (US a fa)),(1,.sat (US b fb)),(5,.is (.int .i64 i))])
   (fun i=>i<=a.length/\a.take i=b.take i) (fun i=>a.length-i) 0 ⟨mf _,rfl⟩ ⟨rfl,rfl,rfl,nm⟩ ?_
  rintro i ⟨hi,he⟩;by_cases hlt:i<a.length
  ·obtain⟨x,hx⟩:=xi hlt;obtain⟨y,hy⟩:=xi (show i<b.length by omega);have hcx:=d6 hx;have hcy:=d6 hy;by_cases hxy:x=y
   ·have hq:=eqU (nf hxy);refine(Ze∘Z9∘Zh∘Zag∘Zbl∘Zd1∘Zb5∘Za9∘Zb5∘Za9∘ZdU∘Zaz∘Zbj∘ZP∘ZT∘ZbW) ?_;exact yn (x:=i) (i+1) ⟨hlt,by rw[Cj hx,Cj hy,he,hxy]⟩ T ⟨Z,Z,Z,nm⟩
   ·have hq:=eqU (ng hxy);have h1:a≠b:=fun e=>by subst e;rw[hx] at hy;exact hxy (Option.some.inj hy)
    rw[nc h1];refine(Ze∘Z9∘Zh∘Zag∘Zbl∘Zd1∘Zb5∘Za9∘Zb5∘Za9∘ZdU∘Zb4∘Zf∘ZK∘Zc) ?_;exact yg2 L [.tmp 4]
  ·obtain rfl:i=a.length:=by omega
   have h1:a=b:=by rw[zla,hlen,zla] at he;exact he
   rw[na h1];refine(Ze∘Z9∘Zh∘Za3∘ZaD∘ZC∘Zc) ?_;exact yg2 L [.tmp 4]
 ·have h1:a≠b:=fun e=>hlen (by rw[e]);rw[nc h1];refine(ZB∘Zah∘Zh∘Zh∘ZaG∘Zx∘Zc) ?_;exact yg2 L [.tmp 4]
end Go.V.Top
namespace Go.V
def noB(s:ByteArray)(c:UInt8):Prop:=c∉s.data.toList
def vt(a b:ByteArray):(a++b).data.toList=a.data.toList++b.data.toList:=by
 rw[ByteArray.data_append,Array.toList_append]
def db(h:a.data.toList=b.data.toList):a=b:=by
 obtain⟨⟨x⟩⟩:=a;obtain⟨⟨y⟩⟩:=b;simp at h;subst h;rfl
def ba_of(a:ByteArray):(⟨a.data.toList.toArray⟩:ByteArray)=a:=by obtain⟨⟨l⟩⟩:=a;rfl
def zh0(h:p7 [a,b]=0):chk a=0/\chk b=0:=by
 simp only[p7] at h;rcases fk a with h1 | h1<;>rcases fk b with h2 | h2<;>simp [h1,h2] at h |-
def Q9(h:p7 [a,b,c]=0):chk a=0/\chk b=0/\chk c=0:=by
 simp only[p7] at h;rcases fk a with h1 | h1<;>rcases fk b with h2 | h2<;>rcases fk c with h3 | h3<;>simp [h1,h2,h3] at h |-
def o3(h:B8 a b c=0):chk a=0/\chk b=0/\(c=⟨#[]⟩\/chk c=0):=by
 unfold B8 at h;split at h
 ·rename_i hc;exact⟨(zh0 h).1,(zh0 h).2,.inl hc⟩
 ·exact⟨(Q9 h).1,(Q9 h).2.1,.inr (Q9 h).2.2⟩
def zdf(s:ByteArray)(c:UInt8):noB s c\/∃ a b,s=a++⟨#[c]⟩++b/\noB a c:=by
 by_cases h:c∈s.data.toList
 ·obtain⟨p,q,e,hp⟩:=List.eq_append_cons_of_mem h;refine .inr ⟨⟨p.toArray⟩,⟨q.toArray⟩,db ?_,by unfold noB;simpa using hp⟩;rw[vt,vt,e];simp
 ·exact .inl h
def Uz(p q r:ByteArray)(i j:Nat)(hi:i=p.size)(hj:j=p.size+q.size):(p++q++r).extract i j=q:=by
 subst hi hj;apply db;rw[ByteArray.data_extract,Array.toList_extract,List.extract,vt,vt];have h1:p.data.toList.length=p.size:=uq p;have h2:q.data.toList.length=q.size:=uq q;rw[mj,<-h1,zm6,znd T]
end Go.V
end
namespace Go.V.L11
abbrev sNl:ByteArray:=⟨#[10]⟩
def Rf:List UInt8->List UInt8->List (List UInt8)
 | acc,[]=>if acc=[] then [] else [acc]
 | acc,c::l=>if c=10 then (acc++[c])::Rf [] l else Rf (acc++[c]) l
def T9:∀ {l acc:List UInt8},10∉l->Rf acc l=if acc++l=[] then [] else [acc++l]
 | [],acc,_=>by rw[mq];rfl
 | c::l,acc,h=>by
  rw[nz,not_or] at h;show(if c=10 then _ else _)=_;rw[nc (Ne.symm h.1),T9 h.2,mj];rfl
def Nz:∀ {a b acc:List UInt8},10∉a->Rf acc (a++10::b)=(acc++a++[10])::Rf [] b
 | [],b,acc,_=>by rw[mq];exact na rfl
 | c::a,b,acc,h=>by
  rw[nz,not_or] at h;show(if c=10 then _ else _)=_;rw[nc (Ne.symm h.1)];refine(Nz (a:=a) (b:=b) (acc:=acc++[c]) h.2).trans ?_;simp
def cx(s:ByteArray):List ByteArray:=(Rf [] s.data.toList).map fun l=>⟨l.toArray⟩
def Ep:cx ⟨#[]⟩=[]:=rfl
def ba_of(s:ByteArray):(⟨s.data.toList.toArray⟩:ByteArray)=s:=by cases s;simp
def zee{s:ByteArray}(h:noB s 10)(hn:s≠⟨#[]⟩):cx s=[s]:=by
 unfold cx;rw[T9 h,mh,nc (fun e=>hn (db e)),mp,zlm,ba_of]
def zad(h:noB a 10):cx (a++sNl++b)=(a++sNl)::cx b:=by
 unfold cx;have e:(a++sNl++b).data.toList=a.data.toList++10::b.data.toList:=by simp [vt]
 rw[e,Nz h,mp,mh];congr 1
def Kg(x:ByteArray):Option ByteArray:=if x.data.toList.getLast?=some 10 then some ⟨x.data.toList.dropLast.toArray⟩ else none
def Hs{x r:ByteArray}(h:Kg x=some r):x=r++sNl:=by
 unfold Kg at h;split at h
 ·rename_i hl;cases h;apply db;rw[vt];obtain⟨ys,hy⟩:=List.getLast?_eq_some_iff.1 hl;show x.data.toList=x.data.toList.dropLast.toArray.toList++[10];rw[hy];simp
 ·cases h
def o6{X:Type}(rd:ByteArray->X×Int):List X->Nat->List ByteArray->List X×Nat×Int
 | out,_,[]=>(out,0,0)
 | out,n,x::xs=>if 4096<n then ([],n,3) else match Kg x with
  | none=>([],n,5)
  | some r=>if (rd r).2≠0 then ([],n,(rd r).2) else o6 rd (out++[(rd r).1]) (n+1) xs
def Xf{X:Type}(rd:ByteArray->X×Int)(s:ByteArray):List X×Nat×Int:=if 1048576<s.size then ([],0,3) else o6 rd [] 1 (cx s)
def Ff{X:Type}(rd:ByteArray->X×Int)(n:Nat)(x:ByteArray):Bool:=decide (4096<n) || match Kg x with | none=>true | some r=>(rd r).2 != 0
def v6{X:Type}(rd:ByteArray->X×Int):Nat->List ByteArray->Bool
 | _,[]=>true
 | n,x::xs=>!Ff rd n x && v6 rd (n+1) xs
def B6{X:Type}(rd:ByteArray->X×Int)(xs:List ByteArray):List X:=xs.filterMap fun x=>(Kg x).map fun r=>(rd r).1
def bm{X:Type}{rd:ByteArray->X×Int}:∀ {xs ys:List ByteArray} {out:List X} {n:Nat},v6 rd n xs=true->o6 rd out n (xs++ys)=o6 rd (out++B6 rd xs) (n+xs.length) ys
 | [],ys,out,n,_=>by simp [B6]
 | x::xs,ys,out,n,h=>by
  unfold v6 at h;rw[zly] at h;obtain⟨h1,h2⟩:=h;unfold Ff at h1;simp only[Bool.not_eq_true',Bool.or_eq_false_iff,decide_eq_false_iff_not] at h1;obtain⟨h3,h4⟩:=h1
  have e:o6 rd out n (x::xs++ys)=if 4096<n then ([],n,3) else match Kg x with
   | none=>([],n,5)
   | some r=>if (rd r).2≠0 then ([],n,(rd r).2) else o6 rd (out++[(rd r).1]) (n+1) (xs++ys):=rfl
  rw[e,nc h3]
  cases hx:Kg x with
  | none=>rw[hx] at h4;cases h4
  | some r=>
   rw[hx] at h4;have h5:¬ (rd r).2≠0:=by simpa using h4
   dsimp only;rw[nc h5,bm h2]
   have e2:B6 rd (x::xs)=(rd r).1::B6 rd xs:=by
    unfold B6;rw[List.filterMap_cons,hx];rfl
   rw[e2,mj,ny,show n+1+xs.length=n+(xs.length+1) by omega];rfl
def pw{X:Type}{rd:ByteArray->X×Int}{y:ByteArray}:∀ {ls:List ByteArray} {n:Nat},v6 rd n (ls++[y])=(v6 rd n ls && !Ff rd (n+ls.length) y)
 | [],n=>by simp [v6]
 | x::ls,n=>by
  show(!Ff rd n x && v6 rd (n+1) (ls++[y]))=((!Ff rd n x && v6 rd (n+1) ls) && _);rw[pw,ny,show n+1+ls.length=n+(ls.length+1) by omega,Bool.and_assoc]
def Lk{X:Type}(rd:ByteArray->X×Int):Nat->List ByteArray->List X
 | _,[]=>[]
 | n,x::xs=>if Ff rd n x=true then [] else B6 rd [x]++Lk rd (n+1) xs
def bn{X:Type}{rd:ByteArray->X×Int}{ys:List ByteArray}:∀ {ls:List ByteArray} {n:Nat},v6 rd n ls=true->Lk rd n (ls++ys)=B6 rd ls++Lk rd (n+ls.length) ys
 | [],n,_=>by simp [B6]
 | x::ls,n,h=>by
  unfold v6 at h;rw[zly] at h;have h1:Ff rd n x=false:=by simpa using h.1
  show(if Ff rd n x=true then [] else B6 rd [x]++Lk rd (n+1) (ls++ys))=_;rw[nc (by rw[h1];decide),bn h.2,ny,show n+1+ls.length=n+(ls.length+1) by omega,<-mj];congr 1;unfold B6;rw[<-List.filterMap_append];rfl
def Li{X:Type}{rd:ByteArray->X×Int}(h:v6 rd 1 ls=true):o6 rd [] 1 ls=(B6 rd ls,0,0):=by
 have:=bm (rd:=rd) (xs:=ls) (ys:=[]) (out:=[]) h;rw[mq] at this;rw[this];rfl
def Lj{X:Type}{rd:ByteArray->X×Int}(h:v6 rd 1 ls=true):Lk rd 1 ls=B6 rd ls:=by
 have:=bn (rd:=rd) (ys:=[]) h;rw[mq] at this;rw[this];exact mq _
def Rm{X:Type}{rd:ByteArray->X×Int}{y r:ByteArray}(h:Kg y=some r):B6 rd (ls++[y])=B6 rd ls++[(rd r).1]:=by
 unfold B6;rw[List.filterMap_append];congr 1;simp [h]
def Mw{X:Type}{rd:ByteArray->X×Int}:(B6 rd ls).length<=ls.length:=List.length_filterMap_le ..
def Ee{X:Type}{rd:ByteArray->X×Int}{y:ByteArray}(h:v6 rd 1 ls=true)(hn:4096<1+ls.length):o6 rd [] 1 (ls++y::ys)=([],1+ls.length,3):=by
 rw[bm h];exact na hn
def Ay{X:Type}{rd:ByteArray->X×Int}{y:ByteArray}(h:v6 rd 1 ls=true)(hn:¬ 4096<1+ls.length)(he:Kg y=none):o6 rd [] 1 (ls++y::ys)=([],1+ls.length,5):=by
 rw[bm h];unfold o6;rw[nc hn,he]
def Ef{X:Type}{rd:ByteArray->X×Int}{y r:ByteArray}(h:v6 rd 1 ls=true)(hn:¬ 4096<1+ls.length)(he:Kg y=some r)(hr:(rd r).2≠0):o6 rd [] 1 (ls++y::ys)=([],1+ls.length,(rd r).2):=by
 rw[bm h];unfold o6;rw[nc hn,he];exact na hr
def Yq{X:Type}{rd:ByteArray->X×Int}{ls ys:List ByteArray}{y:ByteArray}(h:v6 rd 1 ls=true)(hb:Ff rd (1+ls.length) y=true):o6 rd [] 1 (ls++y::ys)=o6 rd [] 1 (ls++[y]):=by
 by_cases hn:4096<1+ls.length
 ·rw[Ee h hn,Ee h hn]
 ·cases he:Kg y with
  | none=>rw[Ay h hn he,Ay h hn he]
  | some r=>
   have hr:(rd r).2≠0:=by
    unfold Ff at hb;rw[he] at hb;simpa [hn] using hb
   rw[Ef h hn he hr,Ef h hn he hr]
def Bg:∀ {l acc x:List UInt8},x∈Rf acc l->x.length<=acc.length+l.length
 | [],acc,x,h=>by
  have h':x∈if acc=[] then ([]:List (List UInt8)) else [acc]:=h
  split at h'
  ·cases h'
  ·rw[m6] at h';subst h';simp
 | c::l,acc,x,h=>by
  have h':x∈if c=10 then (acc++[c])::Rf [] l else Rf (acc++[c]) l:=h
  rw[ny];split at h'
  ·rcases nz.1 h' with rfl | h2
   ·simp
   ·have:=Bg h2;simp at this;omega
  ·have:=Bg h';simp at this;omega
def Ua{s y:ByteArray}(h:y∈cx s):y.size<=s.size:=by
 unfold cx at h;obtain⟨l,hl,rfl⟩:=m8.1 h;have:=Bg hl;rw[uq] at this;show l.toArray.size<=_;simpa using this
def Nh{X:Type}{rd:ByteArray->X×Int}:∀ {xs:List ByteArray} {n:Nat} {out:List X},v6 rd n xs=false->(o6 rd out n xs).1=[]
 | [],_,_,h=>by cases h
 | x::xs,n,out,h=>by
  unfold v6 at h;unfold o6;by_cases hn:4096<n
  ·rw[na hn]
  ·rw[nc hn]
   cases he:Kg x with
   | none=>rfl
   | some r=>
    dsimp only;by_cases hr:(rd r).2≠0
    ·rw[na hr]
    ·rw[nc hr]
     have hb:Ff rd n x=false:=by
      unfold Ff;rw[he];simp at hr;simp [hn,hr]
     rw[hb] at h;exact Nh (by simpa using h)
end Go.V.L11
namespace Go.V
def zic(P:Program)(f:FuncId)(caps:List Value)(gr:GR)(w:World)(B:Heap)(xs:wa):Prop:=
 ∀ (l:Nat) (zpb:wa->GR) (stop:wa->Bool) (C Cg:Nat->Prop),stop []=false->Bz P l zpb stop xs->(zpb []).P B w C->(ZCB C w B)->gr.P B w Cg->(ZCB Cg w B)->(∀ k,C k->¬ Cg k)->
  RetL P f (.func (.yield l) #[] #[]::caps) w B (fun k=>C k\/Cg k) fun _ H u=>∃ C',(zpb (jf stop [] xs)).P H u C'/\∀ k,C' k->((C k\/Cg k)\/w.heap.size<=k)/\k<u.heap.size/\H k=none
section
variable             {a:Act}      
def JcX(Cg:Nat->Prop)(F:Fr)(B:Heap)(n:Nat)(a0:Act)(H0:Heap)(N1:Nat)(O':wa->Boxes)(K:wa->Kap)(pre:wa):GR where
 P Hit u C:=∃ Hc fp,HasH F B (O' pre) n (K pre) a0 u Hc fp/\H0.Le Hc/\H0.Le Hit/\(∀ y∈O' pre,y.1<N1)/\N1<=u.heap.size/\F.w0.heap.size<=N1/\
  (∀ k,Cg k->k<N1/\(F.w0.heap.size<=k\/F.L k)/\Hc k=none)/\(∀ y∈O' pre,¬ Cg y.1)/\(∀ t r k,K pre t=some (.own r)->fp t k->¬ Cg k)/\
  (∀ k,C k↔(k<N1/\H0 k=none/\¬ Cg k)\/(N1<=k/\((Hc k).isSome=true\/∃ t r,K pre t=some (.own r)/\fp t k)))
 st:=by
  rintro Hit u C Hit' u' ⟨Hc,fp,hh,h1,h2,h3,h4,h5,hx1,hx2,hx3,hC⟩ hle hsub hon hk
  have hCt:∀ t r k,K pre t=some (.own r)->fp t k->C k:=fun t r k ht hf=>by
   rw[hC];rcases m5 k N1 with hlt | hge
   ·refine .inl ⟨hlt,?_,hx3 t r k ht hf⟩;have:=((hh.slot t _ ht).2 k hf).2.1
    cases hx:H0 k with
    | none=>rfl
    | some o=>rw[h1 k o hx] at this;cases this
   ·exact .inr ⟨hge,.inr ⟨t,r,ht,hf⟩⟩
  have hCb:∀ y∈O' pre,C y.1:=fun y hy=>by
   rw[hC];refine .inl ⟨h3 y hy,?_,hx2 y hy⟩;have:=(hh.boxes y hy).2.1
   cases hx:H0 y.1 with
   | none=>rfl
   | some o=>rw[h1 _ o hx] at this;cases this
  have hold:∀ k o,H0 k=some o->u'.heap[k]?=u.heap[k]?:=fun k o ho=>
   ((hsub k o (hle k o (h2 k o ho))):u'.heap[k]?=some o).trans ((hh.sub k o (h1 k o ho)):u.heap[k]?=some o).symm
  have hsub':Hc.Le (hp u'):=fun k o ho=>by
   show u'.heap[k]?=some o
   cases hx:H0 k with
   | some o'=>rw[hold k o' hx];exact hh.sub k o ho
   | none=>
    rw[hk k ((hC k).2 ?_)]
    ·exact hh.sub k o ho
    ·rcases m5 k N1 with hlt | hge
     ·exact .inl ⟨hlt,hx,fun hg=>by rw[(hx1 k hg).2.2] at ho;cases ho⟩
     ·exact .inr ⟨hge,.inl (by rw[ho];rfl)⟩
  refine⟨Hc,fp,⟨hh.size,hh.defers,hh.nodup,hh.marks,hh.lent,?_,hsub',hh.base,hh.fresh,fun y hy=>?_,hh.apart,fun t k ht=>?_,hh.owns,hh.mono⟩,h1,h2.trans hle,h3,mw h4 hon.size,h5,hx1,hx2,hx3,hC⟩
  ·refine⟨hon.os.trans hh.keep.os,hon.tape.trans hh.keep.tape,hon.output.trans hh.keep.output,mw hh.keep.size hon.size,fun k hk' hl=>?_,mw hh.keep.dr hon.dr⟩;refine Eq.trans ?_ (hh.keep.block k hk' hl)
   cases hx:H0 k with
   | some o=>exact hold k o hx
   | none=>exact hk k ((hC k).2 (.inl ⟨by omega,hx,fun hg=>by
     rcases(hx1 k hg).2.1 with h | h
     ·omega
     ·exact hl h⟩))
  ·obtain⟨g1,g2,g3⟩:=hh.boxes y hy;exact⟨(hk _ (hCb y hy)).trans g1,g2,g3⟩
  ·have hs:=hh.slot t k ht
   cases k with
   | is _=>exact hs
   | sat _=>exact hs
   | own r=>exact⟨r.st hs.1 (mo _) hsub' hon fun k hf=>hk k (hCt t r k ht hf),fun k hf=>by
     obtain⟨g1,g2,g3,g4⟩:=hs.2 k hf;exact⟨zl8 g1 hon.size,g2,g3,g4⟩⟩
def Kc(L:Tabs P)(gi:Nat){gr:GR}{f:Operand}{params:Array Tmp}{assign body:Code}{gf:Nat}{caps:List Value}
  (fx:List (Nat×Value)) (zpe:wa→List (Nat×Res)) (K1:wa→List Value→List (Nat×Kn)) (xs:wa) (stop:wa→Bool) (jc:wa→Code)
  (hr:F.r=none) (hf:evK κ f=some (.func (.func gf) #[] caps.toArray)) (hfn:L.fn gf=some ())
  (hgi:κ gi=some (.own gr.res)) (hGi:∀ pre,∀ p∈zpe pre,p.1≠gi) (h0:LiveOK (gK' (zpe [])++zcj fx) κ) (hG:∀ pre,∀ p∈zpe pre,n≤p.1) (hst0:stop []=false)
  (hps:∀ x∈xs,x.length=params.size) (hpn:∀ t∈params.toList,t<n)
  (hit:∀ u H,H.Le (hp u)→B.Le H→zic P gf caps gr u H xs)
  (hassign:∀ (w1:World) (Ln:Nat→Prop) (B':Heap) (l D:Nat) (o:Obj) (pre:wa) (x:List Value),pre++[x]<+:xs→stop pre=false→B.Le B'→
   V P ⟨w1,some l,[],Ln⟩ B' n ((l,o)::(D,.deferred (some []))::O) (zie (KK fx (zpe pre)) (params.toList.zip x)) assign (Exit.then (fun a u=>Has ⟨w1,some l,[],Ln⟩ B' ((l,o)::(D,.deferred (some []))::O) n (ofL (K1 pre x)) a u) (fun _ _ _=>False)))
  (hbody:∀ (w1:World) (Ln:Nat→Prop) (B':Heap) (l D:Nat) (o:Obj) (pre:wa) (x:List Value),pre++[x]<+:xs→stop pre=false→B.Le B'→
   V P ⟨w1,some l,[],Ln⟩ B' n ((l,o)::(D,.deferred (some []))::O) (ofL (K1 pre x)) body (zbw ⟨w1,some l,[],Ln⟩ B' n ((l,o)::(D,.deferred (some []))::O) zpe stop jc (pre++[x])))
  (hdone:∀ (l D:Nat) (o:Obj),stop (jf stop [] xs)=false→N ⟨F.w0,F.r,.m D::F.ds,F.L⟩ B n ((l,o)::(D,.deferred (some []))::O) (KK fx (zpe (jf stop [] xs))) zpf)
  (hstop:∀ (l D:Nat) (o:Obj),stop (jf stop [] xs)=true→V P ⟨F.w0,F.r,.m D::F.ds,F.L⟩ B n ((l,o)::(D,.deferred (some []))::O) (KK fx (zpe (jf stop [] xs))) (jc (jf stop [] xs)) zpf):
  V P F B n O κ (.rangeFunc f params assign body) zpf:=by
 obtain⟨w0,r,ds,Lf⟩:=F;dsimp only at hr;subst hr;rintro a u ⟨H,fp,hh⟩
 have e := hh.env (ops := #[]) (o := ⟨none, .move f, 0, "", #[], none⟩) (κ := κ) (fun _ _ => rfl)
 have hfe:a.eval f=.func (.func gf) #[] caps.toArray:=e.is_ f _ (by simp [Op.operands]) hf;refine wpIn_rangeFunc fun fn _=>?_
 --the record
 have hD0:(.loop { state:=.ready,pending:=none,fn,tmps:=a.tmps,params,assign,body,defers:=u.heap.size }:Obj)=.loop { state:=.ready,pending:=none,fn,tmps:=a.tmps,params,assign,body,defers:=u.heap.size }:=rfl;generalize hrec:({ state:=.ready,pending:=none,fn,tmps:=a.tmps,params,assign,body,defers:=u.heap.size }:Loop)=rec0 at hD0;have hh1:=(hh.newBox (.deferred (some []))).newBox (.loop rec0);rw[World.size_alloc] at hh1;generalize hw1:(u.alloc (.deferred (some []))).alloc (.loop rec0)=w1 at hh1;have hN1:w1.heap.size=u.heap.size+2:=by subst hw1;simp
 let recS:wa→Loop:=fun pre=>if stop pre=true then { rec0 with state:=.done,pending:=some (jc pre) } else rec0
 let O':wa→Boxes:=fun pre=>(u.heap.size+1,.loop (recS pre))::(u.heap.size,.deferred (some []))::O
 let F1:Fr:=⟨w0,none,[],Lf⟩
 let a0:Act:={ tmps:=a.tmps,defers:=[] }
 have hCg:=fun k (hk:fp gi k)=>((hh1.slot gi _ hgi).2 k hk)
 have hCg0:=fun k (hk:fp gi k)=>((hh.slot gi _ hgi).2 k hk)
 have hCg1:∀ k,fp gi k→k<w1.heap.size:=fun k hk=>(hCg k hk).1
 let zpb:wa→GR:=JcX (fp gi) F1 B n a0 H w1.heap.size O' fun pre=>KK fx (zpe pre)
 have hrec0:rec0.state=.ready∧rec0.pending=none∧rec0.fn=fn∧rec0.tmps=a.tmps∧rec0.params=params∧rec0.assign=assign∧rec0.body=body:=by subst hrec;exact⟨rfl,rfl,rfl,rfl,rfl,rfl,rfl⟩
 have hO'mem:∀ pre pre' y,y∈O' pre'→∃ y'∈O' pre,y'.1=y.1:=fun pre pre' y hy=>by
  rcases nz.1 hy with rfl | hy
  ·exact⟨_,mb ..,rfl⟩
  ·exact⟨y,mc _ hy,rfl⟩
 have hfix:∀ t k,ofL (zcj fx) t=some k→∀ v,k=.is v→a0.eval (.tmp t)=v:=fun t k ht v hv=>by
  subst hv;exact hh.slot t _ ((LiveOK.right h0).get ht)
 have hrecS0:recS []=rec0:=nc (by rw[hst0];simp)
 --at the start
 have hstart:HasH F1 B (O' []) n (KK fx (zpe [])) a0 w1 H fp:=by
  have h2:=hh1.sub_kap (κ2:=KK fx (zpe [])) fun t k hk=>h0.get hk;have:O' []=(u.heap.size+1,.loop rec0)::(u.heap.size,.deferred (some []))::O:=by show(_,Obj.loop (recS []))::_=_;rw[hrecS0]
  rw[this];exact⟨h2.size,rfl,zmn,(fun _ h=>by cases h),h2.lent,h2.keep,h2.sub,h2.base,h2.fresh,h2.boxes,h2.apart,h2.slot,h2.owns,h2.mono⟩
 have hOg0:∀ pre,∀ y∈O' pre,¬ fp gi y.1:=fun pre y hy hg=>by
  rcases nz.1 hy with rfl | hy
  ·have:=(hCg0 _ hg).1;dsimp only at this;omega
  ·rcases nz.1 hy with rfl | hy
   ·have:=(hCg0 _ hg).1;dsimp only at this;omega
   ·exact(hCg0 _ hg).2.2.2 y hy Z
 have hyg:=hOg0 []
 have hKgi:∀ pre,ofL (gK' (zpe pre)) gi=none:=fun pre=>by
  have:∀ l:List (Nat×Res),(∀ p∈l,p.1≠gi)→ofL (gK' l) gi=none:=fun l=>by
   induction l with
   | nil=>exact fun _=>rfl
   | cons p l ih=>
    intro h;show upd (ofL (gK' l)) p.1 (.own p.2) gi=none;rw[xd _ _ (Ne.symm (h p (mb ..)))];exact ih fun q hq=>h q (mc _ hq)
  exact this _ (hGi pre)
 have hKne:∀ pre t r,KK fx (zpe pre) t=some (.own r)→t≠gi:=fun pre t r ht he=>by
  subst he;have:=se (hG pre) ht;rw[hKgi pre] at this;cases this
 have hog:∀ t r k,KK fx (zpe []) t=some (.own r)→fp t k→¬ fp gi k:=fun t r k ht hf hg=>
  hh.owns t gi r gr.res (hKne [] t r ht) (h0.get ht) hgi k hf hg
 let C0:Nat→Prop:=fun k=>(k<w1.heap.size∧H k=none∧¬ fp gi k)∨(w1.heap.size≤k∧((H k).isSome=true∨∃ t r,KK fx (zpe []) t=some (.own r)∧fp t k))
 have hJ0:(zpb []).P H w1 C0:=⟨H,fp,hstart,mo _,mo _,fun y hy=>xb (hstart.boxes y hy).1,ns _,hstart.keep.size,fun k hk=>⟨hCg1 k hk,(hCg k hk).2.2.1,(hCg k hk).2.1⟩,fun y hy hg=>hyg y hy hg,hog,fun _=>Iff.rfl⟩
 have hC0:∀ k,C0 k→k<w1.heap.size∧H k=none:=fun k hk=>by
  rcases hk with h | ⟨h1,h | ⟨t,r,ht,hf⟩⟩
  ·exact⟨h.1,h.2.1⟩
  ·rw[k7 hstart.sub h1] at h;cases h
  ·have:=((hstart.slot t _ ht).2 k hf).1;omega
 --the rounds
 have hY:Bz P (u.heap.size+1) zpb stop xs:=by
  rintro pre x hpre hstp v Hit C hsubv ⟨Hc,fpc,hc,c1,c2,c3,c4,c5,x1,x2,x3,c6⟩ hCv;have hrp:recS pre=rec0:=nc (by rw[hstp];simp);have hOp:O' pre=(u.heap.size+1,.loop rec0)::(u.heap.size,.deferred (some []))::O:=by show(_,Obj.loop (recS pre))::_=_;rw[hrp]
  rw[hOp] at hc;have hl:v.heap[u.heap.size+1]?=some (.loop rec0):=(hc.boxes _ (mb ..)).1;have hxl:x.length=params.size:=hps x (hpre.subset (by simp));have hyr:=run_yield (P:=P) (args:=x.toArray) hl (by rw[hrec0.2.2.2.2.1];simpa using hxl);rw[hrec0.2.2.1,hrec0.2.2.2.1,hrec0.2.2.2.2.1,hrec0.2.2.2.2.2.1,hrec0.2.2.2.2.2.2] at hyr;refine⟨fn,_,assign,body,hyr,roundIn_of_wpIn trivial ?_⟩
  --the round's frame
  let Cr:Nat→Prop:=fun k=>(∃ y∈O' pre,y.1=k)∨∃ t r,KK fx (zpe pre) t=some (.own r)∧fpc t k
  have hCrC:∀ k,Cr k→C k∧k<v.heap.size∧(w0.heap.size≤k∨Lf k):=fun k hk=>by
   rcases hk with ⟨y,hy,rfl⟩ | ⟨t,r,ht,hf⟩
   ·rw[hOp] at hy;obtain⟨g1,g2,g3⟩:=hc.boxes y hy;refine⟨(c6 _).2 (.inl ⟨c3 y (by rw[hOp];exact hy),?_,x2 y (by rw[hOp];exact hy)⟩),xb g1,g3⟩
    cases hx:H y.1 with
    | none=>rfl
    | some o=>rw[c1 _ o hx] at g2;cases g2
   ·obtain⟨g1,g2,g3,g4⟩:=(hc.slot t _ ht).2 k hf;refine⟨(c6 k).2 ?_,g1,g3⟩;rcases m5 k w1.heap.size with hlt | hge
    ·refine .inl ⟨hlt,?_,x3 t r k ht hf⟩
     cases hx:H k with
     | none=>rfl
     | some o=>rw[c1 _ o hx] at g2;cases g2
    ·exact .inr ⟨hge,.inr ⟨t,r,ht,hf⟩⟩
  have hCrg:∀ k,Cr k→¬ fp gi k:=fun k hk=>by
   rcases hk with ⟨y,hy,rfl⟩ | ⟨t,r,ht,hf⟩
   ·exact x2 y hy
   ·exact x3 t r k ht hf
  let Fr':Fr:=⟨v,some (u.heap.size+1),[],Cr⟩
  have hr0:HasH Fr' Hc ((u.heap.size+1,.loop rec0)::(u.heap.size,.deferred (some []))::O) n (KK fx (zpe pre)) a0 v Hc fpc:=
   ⟨hc.size,rfl,zmn,(fun _ h=>by cases h),fun k hk=>(hCrC k hk).2.1,Keep.refl _ _,hc.sub,mo _,fun _ _ _=>rfl,fun y hy=>⟨(hc.boxes y hy).1,(hc.boxes y hy).2.1,.inr (.inl ⟨y,by rw[hOp];exact hy,rfl⟩)⟩,hc.apart,fun t k hk=>by
    have hs:=hc.slot t k hk
    cases k with
    | is _=>exact hs
    | sat _=>exact hs
    | own r=>exact⟨hs.1,fun k hf=>by
      obtain⟨g1,g2,g3,g4⟩:=hs.2 k hf;exact⟨g1,g2,.inr (.inr ⟨t,r,hk,hf⟩),g4⟩⟩,hc.owns,hc.mono⟩
  have hBc:B.Le Hc:=hc.base;have hr1:=hr0.putP (params.toList.zip x) (fun p hp=>hpn p.1 (List.of_mem_zip hp).1)
  have hfold:(params.zip x.toArray).foldl (fun tmps (t,a)=>tmps.setIfInBounds t a) a.tmps=(params.toList.zip x).foldl (fun t p=>t.setIfInBounds p.1 p.2) a.tmps:=by
   rw[←znw,Array.toList_zip]
  rw[hfold]
  --how a round ends
  have fin:∀ (e:Option Code) (a1:Act) (u1:World),(match e with | none=>stop (pre++[x])=false | some c=>stop (pre++[x])=true∧jc (pre++[x])=c)→
    Has Fr' Hc ((u.heap.size+1,.loop { rec0 with state:=.busy })::(u.heap.size,.deferred (some []))::O) n (ofL (gK' (zpe (pre++[x])))) a1 u1→
    ∃ z w',(Instr.endRound (u.heap.size+1) e).run P u1=.ok z w'∧Ending.returned z=.returned (.bool (!stop (pre++[x])))∧∃ C',(zpb (pre++[x])).P Hit w' C'∧Keep C v w'∧∀ k,C' k→(C k∨v.heap.size≤k)∧k<w'.heap.size:=by
   rintro e a1 u1 he ⟨Hd,fpd,hd⟩;have hl1:=(hd.boxes _ (mb ..)).1;have hrun:=run_endRound (P:=P) e hl1
   have hrecE:({ ({ rec0 with state:=.busy }:Loop) with state:=if e.isNone then .ready else .done,pending:=e }:Loop)=recS (pre++[x]):=by
    cases e with
    | none=>
     have:recS (pre++[x])=rec0:=nc (by rw[he];simp);rw[this];obtain⟨g1,g2,_⟩:=hrec0;cases hq:rec0;rw[hq] at g1 g2;dsimp only at g1 g2 ⊢;rw[g1,g2];rfl
    | some c=>
     have:recS (pre++[x])={ rec0 with state:=.done,pending:=some (jc (pre++[x])) }:=na he.1;rw[this,he.2];rfl
   rw[hrecE] at hrun
   have hv:(e.isNone)=!stop (pre++[x]):=by
    cases e with
    | none=>rw[he];rfl
    | some c=>rw[he.1];rfl
   refine⟨_,_,hrun,by rw[hv],?_⟩;have hd2:=hd.boxSet (O1:=[]) (ds:=[]) (a':=a1) (Chg.putObj (o:=.loop (recS (pre++[x]))) (xb hl1)) (List.Sublist.refl _) (by simp) rfl hd.defers;generalize u1.putObj (u.heap.size+1) (.loop (recS (pre++[x])))=u2 at hd2 ⊢;have hd2':HasH Fr' Hc (O' (pre++[x])) n (ofL (gK' (zpe (pre++[x])))) a1 u2 Hd fpd:=hd2
   have hOg:∀ y∈O' (pre++[x]),(w0.heap.size≤y.1∨Lf y.1)∧y.1<w1.heap.size:=fun y hy=>by
    obtain⟨y',hy',hyy⟩:=hO'mem pre _ y hy;rw[←hyy];exact⟨(hc.boxes y' (by rw[←hOp];exact hy')).2.2,c3 y' hy'⟩
   have hfull:HasH F1 B (O' (pre++[x])) n (KK fx (zpe (pre++[x]))) a0 u2 Hd fpd:=by
    refine⟨hh.size,rfl,zmn,(fun _ h=>by cases h),hc.lent,hc.keep.trans hd2'.keep fun i hi hci=>?_,hd2'.sub,hBc.trans hd2'.base,fun k hk hlk=>?_,fun y hy=>⟨(hd2'.boxes y hy).1,(hd2'.boxes y hy).2.1,(hOg y hy).1⟩,hd2'.apart,fun t k hk=>?_,fun s t r r' hst h1 h2=>?_,fun t k hk=>?_⟩
    ·rcases(hCrC i hci).2.2 with h | h
     ·exact ni hi (by show ¬ (i<w0.heap.size);omega)
     ·exact h
    ·refine(hd2'.fresh k (zl8 hk hc.keep.size) fun hcr=>?_).trans (hc.fresh k hk hlk);rcases(hCrC k hcr).2.2 with h | h
     ·exact ni hk (by show ¬ (k<w0.heap.size);omega)
     ·exact hlk h
    ·rcases t6 (hG _) hk with ⟨hnt,hgk,r,rfl⟩ | ⟨hfk,_,z,rfl⟩
     ·have hs:=hd2'.slot t _ hgk;have e1:a0.eval (.tmp t)=a1.eval (.tmp t):=(E6 (a:=a0) (n:=n) hh.size hnt).trans (E6 hd2'.size hnt).symm;rw[e1];refine⟨hs.1,fun k hf=>?_⟩;obtain⟨g1,g2,g3,g4⟩:=hs.2 k hf;refine⟨g1,g2,?_,g4⟩;rcases g3 with g3 | g3
      ·exact .inl (mw hc.keep.size g3)
      ·exact(hCrC k g3).2.2
     ·exact hfix t _ hfk z Z
    ·exact hd2'.owns s t r r' hst (se (hG _) h1) (se (hG _) h2)
    ·rcases t6 (hG _) hk with ⟨_,_,r,rfl⟩ | ⟨_,_,z,rfl⟩<;>trivial
   have hHd:Hc.Le Hd:=hd2'.base
   refine⟨fun k=>(k<w1.heap.size∧H k=none∧¬ fp gi k)∨(w1.heap.size≤k∧((Hd k).isSome=true∨∃ t r,KK fx (zpe (pre++[x])) t=some (.own r)∧fpd t k)),
    ⟨Hd,fpd,hfull,c1.trans hHd,c2,fun y hy=>(hOg y hy).2,mw c4 hd2'.keep.size,c5,fun k hk=>⟨(x1 k hk).1,(x1 k hk).2.1,(hd2'.fresh k (zl8 (x1 k hk).1 c4) fun hcr=>hCrg k hcr hk).trans (x1 k hk).2.2⟩,hOg0 _,fun t r k ht hf hg=>by
     rcases((hd2'.slot t _ (se (hG _) ht)).2 k hf).2.2.1 with g | g
     ·have h7:=hCg1 k hg;have h8:v.heap.size≤k:=g;omega
     ·exact hCrg k g hg,fun _=>Iff.rfl⟩,hd2'.keep.weak fun k _ hk=>(hCrC k hk).1,fun k hk=>?_⟩
   rcases hk with ⟨h1,h2,h2g⟩ | ⟨h1,h2 | ⟨t,r,ht,hf⟩⟩
   ·exact⟨.inl ((c6 k).2 (.inl ⟨h1,h2,h2g⟩)),zl8 h1 (mw c4 hd2'.keep.size)⟩
   ·obtain⟨o,ho⟩:=zmc.1 h2;refine⟨?_,hd2'.sub.size ho⟩;rcases m5 k v.heap.size with hlt | hge
    ·by_cases hcr:Cr k
     ·exact .inl (hCrC k hcr).1
     ·refine .inl ((c6 k).2 (.inr ⟨h1,.inl ?_⟩));rw[←hd2'.fresh k hlt hcr,ho];rfl
    ·exact .inr hge
   ·have hs:=(hd2'.slot t _ (se (hG _) ht)).2 k hf;refine⟨?_,hs.1⟩;rcases hs.2.2.1 with g | g
    ·exact .inr g
    ·exact .inl (hCrC k g).1
  refine Go.wpIn_mono (hassign v Cr Hc (u.heap.size+1) u.heap.size (.loop rec0) pre x hpre hstp hBc _ v ⟨Hc,fpc,hr1⟩) fun e1 a1 u1 he1=>?_
  cases e1 with
  | normal=>
   obtain⟨Ha,fpa,ha⟩:=he1;have hl1:=(ha.boxes _ (mb ..)).1;refine⟨_,run_beginRound (P:=P) hl1 hrec0.1,?_⟩;have ha2:=ha.boxSet (O1:=[]) (ds:=[]) (a':=a1) (Chg.putObj (o:=.loop { rec0 with state:=.busy }) (xb hl1)) (List.Sublist.refl _) (by simp) rfl ha.defers;refine Go.wpIn_mono (hbody v Cr Hc (u.heap.size+1) u.heap.size (.loop { rec0 with state:=.busy }) pre x hpre hstp hBc a1 _ ⟨Ha,fpa,ha2⟩) fun e2 a2 u2 he2=>?_
   cases e2 with
   | normal=>exact fin none a2 u2 he2.1 he2.2
   | ret=>exact fin (some .ret) a2 u2 ⟨he2.1,he2.2.1⟩ he2.2.2
   | exit id=>exact fin (some (.exit id)) a2 u2 ⟨he2.1,he2.2.1⟩ he2.2.2
   | goto l=>exact he2.elim
   | panic c=>exact he2.elim
   | outgrown=>exact he2.elim
  | exit id=>exact he1.elim
  | goto l=>exact he1.elim
  | ret=>exact he1.elim
  | panic c=>exact he1.elim
  | outgrown=>exact he1.elim
 --the call
 have hB1:B.Le H:=hh.base
 have hcall:=hit w1 H hstart.sub hB1 (u.heap.size+1) zpb stop C0 (fp gi) hst0 hY hJ0 hC0 (hh1.slot gi _ hgi).1 (fun k hk=>⟨hCg1 k hk,(hCg k hk).2.1⟩) (fun k hk hg=>by
  rcases hk with h | ⟨h1,_⟩
  ·exact h.2.2 hg
  ·have:=hCg1 k hg;omega)
 have hel:=run_enterLoop_outer (P:=P) (w:=u) fn a.tmps params assign body;rw[hrec,hw1] at hel;refine⟨u.heap.size+1,[zca (.m u.heap.size)],w1,⟨.fn (.func gf) caps.toArray,#[]++#[.func (.yield (u.heap.size+1)) #[] #[]]⟩,w1,gf,(.func (.yield (u.heap.size+1)) #[] #[]::caps).toArray,w1,hel,?_,fun _ _=>trivial,?_,fun h=>(by cases h),?_⟩
 ·have hcv:a.eval (.const (.func (.yield (u.heap.size+1)) #[] #[]))=.func (.yield (u.heap.size+1)) #[] #[]:=rfl;simp [resolve,rangeCall,hfe,Deferred.ofValue,hcv]
 ·simp only[invoke];rw[uk L hfn];simp
 ·refine FW.call none _ (Calls.mono hcall fun e3 u3 hp=>?_);obtain⟨z,rfl,H3,g3,C3,⟨Hc,fpc,hc,c1,c2,c3,c4,c5,x1,x2,x3,c6⟩,_⟩:=hp;generalize htk:jf stop [] xs=tk at hc c3 hdone hstop c6;have hl3:u3.heap[u.heap.size+1]?=some (.loop (recS tk)):=(hc.boxes _ (mb ..)).1
  have hnb:(recS tk).state≠.busy:=by
   show(if stop tk=true then ({ rec0 with state:=.done,pending:=some (jc tk) }:Loop) else rec0).state≠.busy;split
   ·simp
   ·rw[hrec0.1];simp
  have hpend:(recS tk).pending=if stop tk=true then some (jc tk) else none:=by
   show(if stop tk=true then ({ rec0 with state:=.done,pending:=some (jc tk) }:Loop) else rec0).pending=_;split
   ·rfl
   ·exact hrec0.2.1
  refine⟨_,_,run_endLoop hl3 hnb,?_⟩;have hc2:=hc.boxSet (O1:=[]) (ds:=[]) (a':=a0) (Chg.putObj (o:=.loop { recS tk with state:=.exhausted }) (xb hl3)) (List.Sublist.refl _) (by simp) rfl rfl
  have hDn:DM.m u.heap.size∉ds:=fun hm=>by
   have:=xb (hh.boxes _ (hh.marks _ hm)).1;exact ni this (Nat.lt_irrefl _)
  have hfin:HasH ⟨w0,none,.m u.heap.size::ds,Lf⟩ B ((u.heap.size+1,.loop { recS tk with state:=.exhausted })::(u.heap.size,.deferred (some []))::O) n (KK fx (zpe tk)) { a with defers:=[zca (.m u.heap.size)]++a.defers } (u3.putObj (u.heap.size+1) (.loop { recS tk with state:=.exhausted })) Hc fpc:=
   ⟨hc2.size,by have:=hh.defers;dsimp only at this ⊢;rw[this];rfl,List.nodup_cons.2 ⟨hDn,hh.nodup⟩,fun D hD=>by
    rcases nz.1 hD with e | hD
    ·cases e;exact mc _ (mb ..)
    ·exact mc _ (mc _ (hh.marks D hD)),hc2.lent,hc2.keep,hc2.sub,hc2.base,hc2.fresh,hc2.boxes,hc2.apart,hc2.slot,hc2.owns,hc2.mono⟩
  generalize (Obj.loop { recS tk with state:=.exhausted })=rx at hfin ⊢;rw[hpend]
  cases hs:stop tk with
  | false=>
   simp only[zmp,if_false];exact hdone _ _ _ hs _ _ ⟨Hc,fpc,hfin⟩
  | true=>
   simp only[if_true];exact hstop _ _ _ hs _ _ ⟨Hc,fpc,hfin⟩
end
end Go.V
namespace Go.V
def Ul(h:Keep noL w u):u=Go.Sort.grow (w.drewN (u.drawn-w.drawn)) (u.heap.extract w.heap.size u.heap.size):=by
 obtain⟨h1,h2,h3,h4,h5,h6⟩:=h
 have hh:u.heap=w.heap++u.heap.extract w.heap.size u.heap.size:=by
  apply Array.ext_getElem?;intro k;rw[Array.getElem?_append];split
  ·rename_i hk;exact h5 k hk (fun e=>e)
  ·rename_i hk;rw[Array.getElem?_extract];have e:w.heap.size+(k-w.heap.size)=k:=T;split
   ·rw[e]
   ·exact zmt T
 have hd:u.drawn=w.drawn+(u.drawn-w.drawn):=T;obtain⟨a1,a2,a3,a4,a5⟩:=u;obtain⟨b1,b2,b3,b4,b5⟩:=w;simp only at h1 h2 h3 hh hd;simp only[Go.Sort.grow,World.drewN,World.mk.injEq];exact⟨hh,h2,hd,h1,h3⟩
def zew{α:Type}[Inhabited α]{g:Nat}{cb:List Value}{enc:α->List Value}{cf:α->α->Int}
  (h:∀ (x y:α) (u:World),Ret P g ([.agg (enc x).toArray,.agg (enc y).toArray]++cb) u (fun _=>none) (fun v _=>v=.int .i64 (cf x y))) (blk off size:Nat) (w:World):CmpLays P g cb.toArray enc k cf blk off size w:=fun m os dk _ x y=>by
 have h1:=h x y (Go.Proofs.sortWorldK enc k w blk off m dk os);have e:(#[Value.agg (enc x).toArray,Value.agg (enc y).toArray]++cb.toArray:Array Value)=([Value.agg (enc x).toArray,Value.agg (enc y).toArray]++cb).toArray:=by simp
 rw[e];refine Calls.mono h1 fun e w' hp=>?_;obtain⟨v,rfl,H,g',rfl⟩:=hp;exact⟨rfl,_,_,Ul g'.keep⟩
section
variable  [Inhabited α] {enc:α->List Value} 
def Dc(hk:∀ x,(enc x).length=k)(d:Array α):(Go.Sort.flatK enc k d).toList=d.toList.flatMap enc:=by
 apply zn6;intro t;have hlen:(d.toList.flatMap enc).length=d.size*k:=by rw[wg hk,zlw]
 by_cases ht:t<d.size*k
 ·have k0:0<k:=by
   rcases Nat.eq_zero_or_pos k with h | h
   ·subst h;simp at ht
   ·exact h
  have hd:t/k<d.size:=Nat.div_lt_of_lt_mul (by rwa [zn7] at ht);have h1:=ut hk d.toList (t/k) d[t/k] (by simp [hd]);have h2:=nh (·[t%k]?) h1;simp only[zn3,zlo,zmy t k0,if_true] at h2;rw[Nat.div_add_mod' t k] at h2;rw[h2];have h3:=Go.Sort.get_flatK enc k d t ht;have hs:t<(Go.Sort.flatK enc k d).size:=by rw[Go.Sort.size_flatK];exact ht
  rw[getElem!_pos (Go.Sort.flatK enc k d) t hs,getElem!_pos d _ hd] at h3;have h4:t%k<(enc d[t/k]).length:=by rw[hk];exact zmy t k0
  rw[getElem!_pos (enc d[t/k]) (t%k) h4] at h3;rw[zm8,zlk hs,h3,zlh h4]
 ·rw[zld (l:=d.toList.flatMap enc) T,zld (by rw[zlw,Go.Sort.size_flatK];omega)]
def Up(hk:∀ x,(enc x).length=k){b:Nat}{d:Array α}(hb:u.heap[b]?=some (.cells (d.toList.flatMap enc++rest).toArray e)):Go.Sort.HoldsK enc k u b 0 d:=by
 intro j hj;rw[<-Dc hk] at hb
 have h1:(Go.Sort.flatK enc k d).toList[j]?=some (Go.Sort.flatK enc k d)[j]!:=by
  rw[zm8,zlk hj,getElem!_pos _ j hj]
 refine⟨?_,?_⟩
 ·rw[zlb,kf hb,zmx,zl2 (by simpa using hj),h1];rfl
 ·simp [World.frozen?,hb]
def Ea{F:Array Value}{xs rest:List Value}(h:F.size=xs.length):Go.Sort.putCells id 0 F (xs++rest).toArray=(F.toList++rest).toArray:=by
 apply Array.ext_getElem?;intro t;simp only[Go.Sort.putCells,Array.getElem?_mapIdx,zmx];by_cases ht:t<F.size
 ·rw[zl2 T,zl2 (by simpa using ht),zlh T,zm8,zlk ht];simp only[zmr,mf,zlb,ht,and_self,if_true,zmu,id];rw[getElem!_pos F t ht]
 ·rw[zne T,zne (by simpa using ht)];have e:rest[t-F.toList.length]?=rest[t-xs.length]?:=by rw[zlw,h]
  rw[e]
  cases hr:rest[t-xs.length]? with
  | none=>rfl
  | some y=>
   simp only[zmr,mf,zlb,true_and];rw[nc T]
def sf(hk:∀ x,(enc x).length=k){b:Nat}{d d':Array α}{os:Array Obj}(hs:d'.size=d.size)(hb:u.heap[b]?=some (.cells (d.toList.flatMap enc++rest).toArray e)):
  (Go.Proofs.sortWorldK enc k u b 0 m d' os).heap[b]?=some (.cells (d'.toList.flatMap enc++rest).toArray e):=by
 have hlt:b<u.heap.size:=xb hb;have hl:(Go.Sort.flatK enc k d').size=(d.toList.flatMap enc).length:=by rw[Go.Sort.size_flatK,wg hk,zlw,hs]
 show((u.heap.modify b (Go.Sort.onCells (Go.Sort.putCells id 0 (Go.Sort.flatK enc k d'))))++os)[b]?=_;rw[zoy (by rw[Array.size_modify];exact hlt),Array.getElem?_modify,na rfl,hb];show some (Obj.cells (Go.Sort.putCells id 0 (Go.Sort.flatK enc k d') (d.toList.flatMap enc++rest).toArray) e)=_;rw[Ea hl,Dc hk]
def Aj{b:Nat}{d':Array α}{os:Array Obj}:Keep (fun k=>k=b) u (Go.Proofs.sortWorldK enc k u b 0 m d' os):=by
 refine⟨rfl,rfl,rfl,?_,fun j hj hn=>?_,Nat.le_add_right _ _⟩
 ·show u.heap.size<=((u.heap.modify b (Go.Sort.onCells (Go.Sort.putCells id 0 (Go.Sort.flatK enc k d'))))++os).size;rw[Array.size_append,Array.size_modify];exact Nat.le_add_right _ _
 ·show((u.heap.modify b (Go.Sort.onCells (Go.Sort.putCells id 0 (Go.Sort.flatK enc k d'))))++os)[j]?=_;rw[zoy (by rw[Array.size_modify];exact hj),Array.getElem?_modify,nc (fun e=>hn e.symm)]
end
structure zh6(P:Program)(α:Type)[Inhabited α](f g:Nat)(cb:List Value)(enc:α->List Value)(k:Nat)(cf:α->α->Int):Prop where
 none:∀ (p:Option Addr) (cap:Nat) (w:World),Calls P f #[.slice p 0 cap,.func (.func g) #[] cb.toArray] w fun e w'=>e=.returned (.tuple #[])/\w'=w
 some:∀ (b cap:Nat) (d:Array α) (w:World),Go.Sort.HoldsK enc k w b 0 d->b<w.heap.size->d.size<4611686018427387904->
  Calls P f #[.slice (some ⟨b,0,.none⟩) d.size cap,.func (.func g) #[] cb.toArray] w fun e w'=>e=.returned (.tuple #[])/\∃ d' n os,Go.Sort.PermIn 0 d.size d d'/\Go.Sort.SortedIn (Go.Proofs.ltOf cf) 0 d.size d'/\w'=Go.Proofs.sortWorldK enc k w b 0 n d' os
def SoP{α:Type}(cf:α->α->Int)(l l':List α):Prop:=l'.Perm l/\l'.Pairwise fun a b=>¬ cf b a<0
def zgg[Inhabited α]{cf:α->α->Int}{d d':Array α}(h1:Go.Sort.PermIn 0 d.size d d')(h2:Go.Sort.SortedIn (Go.Proofs.ltOf cf) 0 d.size d'):SoP cf d.toList d'.toList:=by
 obtain⟨hs,_,hp⟩:=h1;have e1:d.extract 0 d.size=d:=by simp
 have e2:d'.extract 0 d.size=d':=by rw[<-hs];simp
 rw[e1,e2] at hp;refine⟨hp,zmk.2 fun i j hi hj hij=>?_⟩;rw[zlw] at hi hj;have h3:=h2 i j (mf _) hij T;rw[getElem!_pos d' j hj,getElem!_pos d' i hi] at h3;have h4:¬ cf d'[j] d'[i]<0:=by simpa [Go.Proofs.ltOf] using h3
 simpa using h4
section
def SoR{α:Type}(e:TypeId)(s:Nat)(enc:α->List Value)(cf:α->α->Int)(l:List α):Res:=ExR (fun l':List α=>SlR e s l'.length (l'.flatMap enc)) (fun l' _=>SoP cf l l') (fun _ _ _ h _=>h)
end
end Go.V
namespace Go.V
def zkj(w:World)(C:Nat->Prop)(r:Res)(v:Value)(H:Heap)(u:World):Prop:=∃ C':Nat->Prop,r.P v H u C'/\∀ k,C' k->(C k\/w.heap.size<=k)/\k<u.heap.size/\H k=none
def RetT(P:Program)(f:FuncId)(args:List Value)(w:World)(B:Heap)(C:Nat->Prop)(r:Res):Prop:=RetL P f args w B C (zkj w C r)
def Dn{zs:Array Value}{m:Nat}(h:zs.all vj=true):∀ v∈Builtin.zeroCells zs m,vj v=true:=by
 intro v hv;unfold Builtin.zeroCells at hv;obtain⟨i,hi,rfl⟩:=Array.mem_map.1 hv;have hi':i<m*zs.size:=by simpa using hi
 have hpos:0<zs.size:=by
  rcases Nat.eq_zero_or_pos zs.size with e | e
  ·rw[e] at hi';simp at hi'
  ·exact e
 have hlt:=zmy i hpos;rw[getElem!_pos zs _ hlt];exact Array.all_eq_true.1 h _ hlt
section
variable             {a:Act}    
def Yt(L:Tabs P)[Inhabited α]{q f gf:Nat}{s:Nat}{cb:List Value}{enc:α->List Value}{cf:α->α->Int}{l:List α}{y fa fo:Operand}{x:Value}
  (hop:o.op=.call { callee:=.value fo,args:=#[y,fa],argTypes:=at_ }) (hd:o.dst=some d) (hn:Nat.blt d n=true) (hg:gK ops κ o=some true) (hf:evK κ fo=some (.func (.func f) #[] #[])) (hfn:L.fn f=some ())
  (hy:evK κ y=some x) (hq:κ q=some (.own (AtV x (SlR e s l.length (l.flatMap enc))))) (hfa:evK κ fa=some (.func (.func gf) #[] cb.toArray)) (hk:∀ x,(enc x).length=s) (hz:l.length<4611686018427387904) (hC:zh6 P α f gf cb enc s cf):
  wh P F B n ops O κ o q (.own (AtV x (SoR e s enc cf l))) d (.is (.tuple #[])):=by
 rintro κ' a u hlk hqk ⟨H,fp,hh⟩;unfold After;rw[na (xf hh hlk hg)];have en:=hh.env hlk;have hfe:a.eval fo=.func (.func f) #[] ([]:List Value).toArray:=en.is_ fo _ (by simp [hop,Op.operands,Call.operands]) hf;have hae:=en.is_ fa _ (by simp [hop,Op.operands,Call.operands]) hfa;have hye:=en.is_ y _ (by simp [hop,Op.operands,Call.operands]) hy;have hqs:=hqk.trans hq;obtain⟨⟨hl,hown⟩,hM⟩:=hh.slot q _ hqs;rw[vr L hop hfe hfn];simp only[Upon,mp,zlm,mq,hae,hye];rcases hown with ⟨h0,hv,hc0⟩ | ⟨b,cap,rest,hv,hb,h3,h4,h5,hc⟩
 ·rw[hv];refine Calls.mono (hC.none none 0 u) fun e' u' hp=>?_;obtain⟨rfl,rfl⟩:=hp;refine⟨_,rfl,?_⟩;simp only[hd];have:l=[]:=mz h0;subst this;exact⟨H,_,(hh.turnR hqs (r':=AtV (.slice none 0 0) (SoR e s enc cf [])) ⟨[],⟨List.Perm.refl _,List.Pairwise.nil⟩,hl,.inl ⟨h0,rfl,hc0⟩⟩).put (k:=.is (.tuple #[])) (zn hn) trivial Z⟩
 ·rw[hv];have hbm:=hM b ((hc b).2 rfl);have hb':u.heap[b]?=some (.cells (l.toArray.toList.flatMap enc++rest).toArray e):=hb;refine Calls.mono (hC.some b cap l.toArray u (Up hk hb') hbm.1 (by simpa using hz)) fun e' u' hp=>?_;obtain⟨rfl,d',m,os,hp1,hp2,rfl⟩:=hp;refine⟨_,rfl,?_⟩;simp only[hd];have hso:=zgg hp1 hp2;have hsz:d'.size=l.toArray.size:=hp1.1;have hcell:=sf (m:=m) (os:=os) hk hsz hb';have hkp:=Aj (enc:=enc) (k:=s) (u:=u) (b:=b) (m:=m) (d':=d') (os:=os)
  have hgr:Grow (fp q) u H (Go.Proofs.sortWorldK enc s u b 0 m d' os) H:=⟨hkp.weak (fun k _ hk=>(hc k).2 hk),fun k x hx=>by
   have h1:=hh.sub _ _ hx;have hne:k≠b:=fun e=>by subst e;rw[hbm.2.1] at hx;cases hx
   exact(hkp.block k (xb h1) hne).trans h1,mo _,fun _ _ _=>rfl⟩
  have hll:d'.toList.length=l.length:=by rw[zlw,hsz];simp
  have h2:=hh.usePut (d:=q) (a':=a) (r':=AtV (.slice (some ⟨b,0,none⟩) l.length cap) (SoR e s enc cf l)) (C:=fun k=>k=b) hqs hgr rfl rfl (fun _ _=>rfl)
   ⟨d'.toList,hso,by rw[wg hk],.inr ⟨b,cap,rest,by rw[hll],hcell,by rw[hll];exact h3,h4,by rw[nr,wg hk,hll,<-wg hk l,<-nr];exact h5,fun _=>Iff.rfl⟩⟩ (fun k hk=>by
    subst hk;exact⟨.inl ((hc k).2 rfl),zl8 hbm.1 hkp.size,hbm.2.1⟩)
  rw[jo] at h2;exact⟨H,_,h2.put (k:=.is (.tuple #[])) (zn hn) trivial Z⟩
def iw(L:Tabs P){q f:Nat}{r r':Res}{fo:Operand}
  (hn:Nat.blt d n=true) (hg:gK ops κ ⟨some d,.call { callee:=.value fo,args:=args,argTypes:=at_ },ty,pos,aft,g⟩=some true)
  (hf:evK (upd κ q (.is undef)) fo=some (.func (.func f) #[] cap.toArray)) (hfn:L.fn f=some ()) (hq:κ q=some (.own r))
  (h:∀ u H C x,zpg H u->B.Le H->r.P x H u C->(ZCB C u H)->Args (upd κ q (.is x)) H args.toList [] (fun vs=>RetT P f (vs++cap) u H C r')):
  wh P F B n ops O κ ⟨some d,.call { callee:=.value fo,args:=args,argTypes:=at_ },ty,pos,aft,g⟩ q fm d (.own r'):=by
 rintro κ' a u hlk hks ⟨H,fp,hh⟩;unfold After;rw[na (xf hh hlk hg)];have hk':κ' q=some (.own r):=hks.trans hq;obtain⟨hown,hM⟩:=hh.slot q _ hk';have hh2:=hh.name q
 have e2:Env F B O (upd κ q (.is (a.eval (.tmp q)))) ⟨some d,.call { callee:=.value fo,args:=args,argTypes:=at_ },ty,pos,aft,g⟩ a u H fp:=hh2.env (ops:=ops) fun t ht=>by
  by_cases htq:t=q
  ·subst htq;rw[xj,xj]
  ·rw[xd _ _ htq,xd _ _ htq];exact hlk t ht
 have hfe:a.eval fo=.func (.func f) #[] cap.toArray:=by
  refine e2.is_ fo _ (by simp [Op.operands,Call.operands]) ?_
  cases fo with
  | tmp t=>
   simp only[evK] at hf |-;by_cases htq:t=q
   ·subst htq;rw[xj] at hf;cases hf
   ·rw[xd _ _ htq] at hf |-;exact hf
  | _=>exact hf
 have hc:=Args.use e2 args.toList [] (fun x hx=>by simp [Op.operands,Call.operands] at hx |-;exact .inr hx) (h u H (fp q) _ hh.sub hh.base hown fun k hk=>⟨(hM k hk).1,(hM k hk).2.1⟩);simp only[zmb,mh] at hc;rw[vr L rfl hfe hfn];simp only[Upon];refine Calls.mono hc fun e' u' hp=>?_;obtain⟨v,rfl,H',g',C',hv,hC'⟩:=hp;exact⟨v,rfl,H',_,hh.usePut (d:=d) (a':=a.put (some d) v) hk' g' (by simp [Act.put]) Z (fun t ht=>xn ht) (by rw[xx (by rw[hh.size];exact zn hn)];exact hv) hC'⟩
def dx{fn:Func}{t:Nat}{r:Res}(hrs:fn.results=#[.tmp t])(hQ:∀ a u,bodyPostM Fence.wide 0 P fn (ft F.w0 B0 F.L (zkj F.w0 F.L r)) .ret a u->zpf .ret a u)(hs:Since F B0 B)(hk:κ t=some (.own r))(hm:Xk F.ds=true:=by rfl):V P F B n O κ .ret zpf:=
 O3 hQ hs (hm:=hm) fun O' a u H fp _ hh=>by
  obtain⟨hown,hM⟩:=hh.slot t _ hk;refine⟨a.eval (.tmp t),?_,fp t,hown,fun k hk=>?_⟩
  ·simp [results,hrs,Act.eval]
  ·obtain⟨h1,h2,h3,_⟩:=hM k hk;exact⟨h3.symm,h1,h2⟩
def b9(t q:Nat){c:Code}(hk:κ t=some (.own (SlR e s m xs)))
  (h0:m=0->xs=[]->V P F B n O (upd κ t (.is (.slice none 0 0))) c zpf)
  (h:∀ b cap rest,xs.length=m*s->m<=cap->cap<=maxLen->(xs++rest).length=cap*s->V P F B n O (upd (upd (upd κ t fm) q (.own (xk b (xs++rest) e))) t (.is (.slice (some ⟨b,0,none⟩) m cap))) c zpf):V P F B n O κ c zpf:=fun a u hh=>by
 obtain⟨H,fp,hh⟩:=hh;obtain⟨⟨hl,hv⟩,hM⟩:=hh.slot t _ hk;rcases hv with ⟨hm,hv,_⟩ | ⟨b,cap,rest,hv,hb,h3,h4,h5,hC⟩
 ·have h3:=hh.name t;rw[hv] at h3;subst hm;exact h0 Z (mz (by simpa using hl)) a u ⟨H,_,h3⟩
 ·have h2:=hh.usePut (d:=q) (a':=a) (r':=xk b (xs++rest) e) (C:=fp t) hk ⟨Keep.refl _ _,hh.sub,mo _,fun _ _ _=>rfl⟩ rfl rfl (fun _ _=>rfl) ⟨hb,hC⟩ fun k hk=>⟨.inl hk,(hM k hk).1,(hM k hk).2.1⟩
  have h3':=h2.name t;rw[hv] at h3';exact h b cap rest hl h3 h4 h5 a u ⟨H,_,h3'⟩
def jw(t q:Nat){b cap:Nat}{c:Code}(hcs:cs=xs++rest)(hk:κ q=some (.own (xk b cs e)))(ht:κ t=some (.is (.slice (some ⟨b,0,none⟩) m cap)))(hl:xs.length=m*s)(hm:m<=cap)(hc:cap<=maxLen)(hcl:cs.length=cap*s)
  (h:V P F B n O (upd (upd κ q fm) t (.own (SlR e s m xs))) c zpf):V P F B n O κ c zpf:=fun a u hh=>by
 subst hcs;obtain⟨H,fp,hh⟩:=hh;obtain⟨⟨hb,hC⟩,hM⟩:=hh.slot q _ hk;have hx:a.eval (.tmp t)=.slice (some ⟨b,0,none⟩) m cap:=hh.slot t _ ht;exact h a u ⟨H,_,hh.usePut (d:=t) (a':=a) (r':=SlR e s m xs) (C:=fp q) hk ⟨Keep.refl _ _,hh.sub,mo _,fun _ _ _=>rfl⟩ Z Z (fun _ _=>rfl) ⟨hl,.inr ⟨b,cap,rest,hx,hb,hm,hc,hcl,hC⟩⟩ fun k hk=>⟨.inl hk,(hM k hk).1,(hM k hk).2.1⟩⟩
def zb7{k k2:IntKind}{q r:Int}(hn:Nat.blt d n=true)(hg:gK ops κ ⟨some d,.binOp .shr t x y t',ty,pos,aft,g⟩=some true)(hx:evK κ x=some (.int k p))(hy:evK κ y=some (.int k2 q))(h0:0<=q)(hb:p.fdiv (2^min q.toNat k.bits)=r):
  StepOK P F B n ops O κ ⟨some d,.binOp .shr t x y t',ty,pos,aft,g⟩ d (.is (.int k r)):=w7 hn hg hx hy fun u=>by subst hb;simp [eqGuard_shr,binOp_shr,Op.shift,Int.not_lt.2 h0]
def ua(L:Tabs P){b cap:Nat}{lo hi:Option Operand}{kl kh:IntKind}(i j:Nat){pl ph:Int}(hn:Nat.blt d n=true)(hg:gK ops κ ⟨some d,.slice tt x lo hi none,ty,pos,aft,g⟩=some true)
  (hx:evK κ x=some (.slice (some ⟨b,off,none⟩) m cap)) (ht:L.sl tt=some e) (hl:L.ld e=some (ag,s))
  (hlo:match lo with | some y=>evK κ y=some (.int kl pl)/\pl=i | none=>i=0) (hhi:match hi with | some y=>evK κ y=some (.int kh ph)/\ph=j | none=>j=m)
  (hij:i<=j) (hjc:j<=cap):
  StepOK P F B n ops O κ ⟨some d,.slice tt x lo hi none,ty,pos,aft,g⟩ d (.is (.slice (some (if cap=i then ⟨b,off,none⟩ else ⟨b,off+i*s,none⟩)) (j-i) (cap-i))):=
 ke rfl (zn hn) hg trivial fun a u H fp en=>⟨_,by
  have hu:=Tabs.sl_spec ht;have h1:=en.is_ x _ (by simp [Op.operands]) hx
  have hrun:(Instr.sliceBounds true m cap (lo.map a.eval) (hi.map a.eval) none).run P u=.ok (i,j,cap) u:=by
   cases hi with
   | none=>
    simp only at hhi;subst hhi
    cases lo with
    | none=>simp only at hlo;subst hlo;simp [Instr.sliceBounds]
    | some z=>
     obtain⟨hz,rfl⟩:=hlo;have h3:=en.is_ z _ (by simp [Op.operands]) hz;simp [h3,Instr.sliceBounds,ji i kl _ _ hij]
   | some y=>
    obtain⟨hy,rfl⟩:=hhi;have h2:=en.is_ y _ (by simp [Op.operands]) hy
    cases lo with
    | none=>simp only at hlo;subst hlo;simp [h2,Instr.sliceBounds,ji j kh cap _ hjc]
    | some z=>
     obtain⟨hz,rfl⟩:=hlo;have h3:=en.is_ z _ (by simp [Op.operands]) hz;simp [h2,h3,Instr.sliceBounds,ji j kh cap _ hjc,ji i kl _ _ hij]
  simp only[execOp,h1,Instr.sliceAt,Instr.slice,nu,run_underlying hu,ma,zoi,hrun,je (Tabs.ld_spec hl),me];congr 3;split<;>simp [Addr.add],rfl⟩
def Gy(L:Tabs P){q:Nat}{tt e t':TypeId}{by_ s b off m cap:Nat}{z:Value}{cs cs':List Value}(hg:gK ops κ ⟨none,.call ⟨.builtin .clear,#[y],#[tt]⟩,ty,pos,aft,g⟩=some true)
  (hy:evK κ y=some (.slice (some ⟨b,off,none⟩) m cap)) (hq:κ q=some (.own (xk b cs t'))) (ht:L.sl tt=some e) (he:elI P e=some (s,by_)) (hz:L.zr e=some z) (hz1:z.cells.toList.all vj=true)
  (hcs:m=0\/off+m*s<=cs.length) (hr:m≠0->cs.take off++((Builtin.zeroCells z.cells m).toList++cs.drop (off+m*s))=cs') (hr0:m=0->cs=cs'):
  ic P F B n ops O κ ⟨none,.call ⟨.builtin .clear,#[y],#[tt]⟩,ty,pos,aft,g⟩ q (.own (xk b cs' t')):=by
 rintro κ' a u hlk hqk ⟨H,fp,hh⟩;unfold After;rw[na (xf hh hlk hg)];have en:=hh.env hlk;have hye:=en.is_ y _ (by simp [Op.operands,Call.operands]) hy;have hqs:=hqk.trans hq;obtain⟨⟨hb,hC⟩,hM⟩:=hh.slot q _ hqs;by_cases hm:m=0
 ·subst hm;obtain rfl:=hr0 rfl
  have hrun:(execOp a.eval ⟨none,.call ⟨.builtin .clear,#[y],#[tt]⟩,ty,pos,aft,g⟩).run P u=.ok (.value (.tuple #[])) u:=by
   simp [execOp,resolve,invoke,builtin,hye,Builtin.clear_,run_underlying (Tabs.sl_spec ht)]
  rw[hrun];simp only[Upon,Act.put]
  exact⟨H,fp,by
   have:upd κ' q (.own (xk b cs t'))=κ':=by
    funext t;by_cases h:t=q
    ·subst h;rw[xj];exact hqs.symm
    ·rw[xd _ _ h]
   rw[this];exact hh⟩
 ·have hr:=hr hm;subst hr;have hcs':=hcs.resolve_left hm;obtain⟨i,z',hi,hz',hs1,hs2,hs3,hs4⟩:=w8 he;have hzz:=Tabs.zr_spec hz
  have hzr:(zeroValue e).run P u=.ok z u:=by
   unfold zrI at hzz;split at hzz
   ·rename_i it hit;simp [zeroValue,typeInfo,hit,hzz]
   ·cases hzz
  have hze:z'=z:=by
   have h1:(zeroValue e).run P u=.ok z' u:=by simp [zeroValue,typeInfo,hi,hz']
   rw[hzr] at h1;cases h1;rfl
  subst hze;have hzl:(Builtin.zeroCells z'.cells m).toList.length=m*s:=by rw[zlw,size_zeroCells,hs3]
  have hst:=vp (P:=P) b t' off (Builtin.zeroCells z'.cells m).toList 0 cs.toArray u hb (by rw[hzl];simpa using hcs') (fun v hv=>by
   have h1:v∈Builtin.zeroCells z'.cells m:=by simpa using hv
   exact g7 (Dn (by rw[<-Array.all_toList];exact hz1) v h1))
  have hrun:(execOp a.eval ⟨none,.call ⟨.builtin .clear,#[y],#[tt]⟩,ty,pos,aft,g⟩).run P u=.ok (.value (.tuple #[])) (u.setRow b (cs.take off++((Builtin.zeroCells z'.cells m).toList++cs.drop (off+m*s))).toArray):=by
   rw[hzl] at hst
   cases m with
   | zero=>exact ni rfl hm
   | succ m=>
    simp only[execOp,resolve,invoke,builtin,nu,me,ma,zlv,mp,zlm,hye,Builtin.clear_,zmx,znm,run_underlying (Tabs.sl_spec ht),hzr];rw[hst];simp
  rw[hrun];simp only[Upon,Act.put];have hset:=setRow_heap u b cs.toArray (cs.take off++((Builtin.zeroCells z'.cells m).toList++cs.drop (off+m*s))).toArray t' (0,0) hb;have hbm:=hM b ((hC b).2 rfl)
  have:=hh.usePut (d:=q) (a':=a) (r':=xk b (cs.take off++((Builtin.zeroCells z'.cells m).toList++cs.drop (off+m*s))) t') (C:=fun k=>k=b) hqs (ww hh.sub hb ((hC b).2 rfl) hbm.2.1 _) rfl rfl (fun _ _=>rfl) ⟨hset,fun _=>Iff.rfl⟩ (fun k hk=>by
   subst hk;exact⟨.inl ((hC k).2 rfl),by rw[setRow_size];exact hbm.1,hbm.2.1⟩)
  rw[jo] at this;exact⟨H,_,this⟩
def Ca(L:Tabs P){t e:TypeId}{z:Value}(hn:Nat.blt d n=true)(hg:gK ops κ ⟨some d,.buildSlice t 0 #[],ty,pos,aft,g⟩=some true)(ht:L.sl t=some e)(hl:L.ld e=some (ag,s))(hz:L.zr e=some z):
  StepOK P F B n ops O κ ⟨some d,.buildSlice t 0 #[],ty,pos,aft,g⟩ d (.own (SlR e s 0 [])):=by
 rintro κ' a u hlk ⟨H,fp,hh⟩;unfold After;rw[na (xf hh hlk hg)]
 have hrun:(execOp a.eval ⟨some d,.buildSlice t 0 #[],ty,pos,aft,g⟩).run P u=.ok (.value (.slice (some ⟨u.heap.size,0,none⟩) 0 0)) (u.alloc (.cells #[] e)):=by
  have hzz:=Tabs.zr_spec hz;unfold zrI at hzz;split at hzz
  ·rename_i it hit;have hzr:(zeroValue e).run P u=.ok z u:=by simp [zeroValue,typeInfo,hit,hzz]
   simp only[execOp,nu];have e0:(Array.map (fun x:Nat×Operand=>(x.1,a.eval x.2)) #[])=(#[]:Array (Nat×Value)):=by simp
   rw[e0];have hfill:Instr.fill (fun i=>some (i*s,s)) #[] []=some #[]:=by simp [Instr.fill]
   simp only[Instr.buildSlice,nu,run_underlying (Tabs.sl_spec ht),ma,je (Tabs.ld_spec hl)];simp only[Nat.zero_mul,if_true,me,ma];have e1:(Array.range 0).map (fun _:Nat=>(default:Value))=#[]:=by simp
   simp [newRow,hfill,e1]
  ·cases hzz
 rw[hrun];simp only[Upon];have hg2:=hh.grow (Grow.hid hh.sub (.cells #[] e));refine⟨H,_,hg2.putR (C:=fun k=>k=u.heap.size) (by simp [Act.put]) Z (fun t ht=>xn ht) ⟨by simp,.inr ⟨u.heap.size,0,[],xx (by rw[hh.size];exact zn hn),xu _ _,ns _,by simp [maxLen],by simp,fun _=>Iff.rfl⟩⟩ (fun k hk=>?_) fun t r' _ ht k hf hk=>?_⟩
 ·subst hk;exact⟨xb (xu u _),k7 hh.sub (ns _),.inl hh.keep.size,fun y hy e=>by have:=xb (hh.boxes y hy).1;omega⟩
 ·have:=((hh.slot t _ ht).2 k hf).1;omega
end
end Go.V
namespace Go.V
def yz(b:Nat)(cs:List Value)(ty:TypeId):GR where
 P _ u C:=u.heap[b]?=some (.cells cs.toArray ty)/\∀ k,C k↔k=b
 st:=fun⟨h1,h2⟩ _ _ _ hk=>⟨(hk b ((h2 b).2 rfl)).trans h1,h2⟩
def xa(b:Nat)(cs:List Value)(ty:TypeId):(yz b cs ty).res=xk b cs ty:=rfl
def ki(P:Program)(f:FuncId)(args:List Value)(w:World)(B:Heap)(C:Nat->Prop)(r:GR):Prop:=
 RetL P f args w B C fun _ H u=>∃ C',r.P H u C'/\∀ k,C' k->(C k\/w.heap.size<=k)/\k<u.heap.size/\H k=none
section
def yq(L:Tabs P)(q:Nat)(r':GR){r:GR}{fo:Operand}
  (hn:Nat.blt d n=true) (hg:gK ops κ ⟨some d,.call { callee:=.value fo,args:=args,argTypes:=at_ },ty,pos,aft,g⟩=some true)
  (hf:evK κ fo=some (.func (.func f) #[] cap.toArray)) (hfn:L.fn f=some ()) (hq:κ q=some (.own r.res))
  (h:∀ u H C,zpg H u->B.Le H->r.P H u C->(ZCB C u H)->Args κ H args.toList [] (fun vs=>ki P f (vs++cap) u H C r')):
  wh P F B n ops O κ ⟨some d,.call { callee:=.value fo,args:=args,argTypes:=at_ },ty,pos,aft,g⟩ q (.own r'.res) d fm:=by
 rintro κ' a u hlk hks ⟨H,fp,hh⟩;unfold After;rw[na (xf hh hlk hg)];have hk':κ' q=some (.own r.res):=hks.trans hq;obtain⟨hown,hM⟩:=hh.slot q _ hk';have e2:=hh.env hlk;have hfe:a.eval fo=.func (.func f) #[] cap.toArray:=e2.is_ fo _ (by simp [Op.operands,Call.operands]) hf;have hc:=Args.use e2 args.toList [] (fun x hx=>by simp [Op.operands,Call.operands] at hx |-;exact .inr hx) (h u H (fp q) hh.sub hh.base hown fun k hk=>⟨(hM k hk).1,(hM k hk).2.1⟩);simp only[zmb,mh] at hc;rw[vr L rfl hfe hfn];simp only[Upon];refine Calls.mono hc fun e' u' hp=>?_;obtain⟨v,rfl,H',g',C',hv,hC'⟩:=hp;have h2:=hh.usePut (d:=q) (a':=a) (r':=r'.res) hk' g' rfl rfl (fun _ _=>rfl) hv hC';rw[jo] at h2;exact⟨v,Z,H',_,h2.put (k:=fm) (zn hn) (fun _ _ _ h _=>h) trivial⟩
def Xb(L:Tabs P){fn:Func}(hrs:fn.results=#[])(hQ:∀ a u,bodyPostM Fence.wide 0 P fn (ft F.w0 B0 F.L fun _ _ _=>True) .normal a u->zpf .normal a u)(hs:Since F B0 B)(hm:Xk F.ds=true:=by rfl):N F B n O κ zpf:=
 zcq hQ hs (hm:=hm) fun O' a u H fp _ hh=>by
  obtain⟨vs,h1,_⟩:=jv L hh (rs:=[]) hrs (K:=fun _=>True) trivial;exact⟨_,h1,nm⟩
def ib{x c y:Code}{zpa:Type}(Fk:zpa->List (Nat×Kn))(I:zpa->Prop)(Ob:zpa->Boxes)(hy:∀ t,I t->V P F B n (Ob t) (ofL (Fk t)) y zpf)
  (h:V P F B n O κ x (Exit.then (fun a u=>c.wpIn (FW F.r) 0 P (Exit.then (fun a u=>∃ t,I t/\Has F B (Ob t) n (ofL (Fk t)) a u) zpf) a u) (Exit.then (fun a u=>∃ t,I t/\Has F B (Ob t) n (ofL (Fk t)) a u) zpf))):
  V P F B n O κ x (Exit.then (fun a u=>c.wpIn (FW F.r) 0 P (Exit.then (fun a u=>y.wpIn (FW F.r) 0 P zpf a u) zpf) a u) (Exit.then (fun a u=>y.wpIn (FW F.r) 0 P zpf a u) zpf)):=fun a u hh=>by
 have key:∀ e a u,Exit.then (fun a u=>∃ t,I t/\Has F B (Ob t) n (ofL (Fk t)) a u) zpf e a u->Exit.then (fun a u=>y.wpIn (FW F.r) 0 P zpf a u) zpf e a u:=fun e a u he=>by
  cases e<;>first | exact he | (obtain⟨t,hI,hh⟩:=he;exact hy t hI a u hh)
 refine Go.wpIn_mono (h a u hh) fun e a u he=>?_;cases e<;>first | exact Go.wpIn_mono he key | exact he
def HasH.setSat{t:Nat}{a:Act}(hm:Kn.mono (.sat φ))(h:HasH F B O n κ a u H fp)(hφ:φ (a.eval (.tmp t)) H):HasH F B O n (upd κ t (.sat φ)) a u H fp:=
 ⟨h.size,h.defers,h.nodup,h.marks,h.lent,h.keep,h.sub,h.base,h.fresh,h.boxes,h.apart,fun s k hs=>by
  by_cases hst:s=t
  ·subst hst;rw[xj] at hs;cases hs;exact hφ
  ·rw[xd _ _ hst] at hs;exact h.slot s k hs,fun s r r1 r2 hsr h1 h2=>by
  have key:∀ x r,upd κ t (.sat φ) x=some (.own r)->κ x=some (.own r):=fun x r hx=>by
   by_cases hxd:x=t
   ·subst hxd;rw[xj] at hx;cases hx
   ·rw[xd _ _ hxd] at hx;exact hx
  exact h.owns s r r1 r2 hsr (key _ _ h1) (key _ _ h2),fun s k hs=>by
  by_cases hst:s=t
  ·subst hst;rw[xj] at hs;cases hs;exact hm
  ·rw[xd _ _ hst] at hs;exact h.mono s k hs⟩
def SlG(e:TypeId)(s n:Nat)(xs:List Value):Res where
 P x H u C:=(n=0/\xs=[]/\SlV e s [] 0 true x H/\∀ k,¬ C k)\/(SlR e s n xs).P x H u C
 st:=fun h hle hs ho hk=>by
  rcases h with ⟨h1,h2,h3,h4⟩ | h
  ·exact .inl ⟨h1,h2,h3.le hle,h4⟩
  ·exact .inr ((SlR e s n xs).st h hle hs ho hk)
def Has.toG{t:Nat}{a:Act}(hk:κ t=some (.sat (SlV e s [] 0 true)))(h:Has F B O n κ a u):Has F B O n (upd κ t (.own (SlG e s 0 []))) a u:=by
 obtain⟨H,fp,h⟩:=h;exact⟨H,_,h.putR (C:=noL) (a':=a) Z Z (fun _ _=>rfl) (.inl ⟨rfl,rfl,h.slot t _ hk,fun _ h=>h⟩) (fun k hk=>hk.elim) (fun _ _ _ _ _ _ hk=>hk.elim)⟩
def zjr(t:Nat){c:Code}(hk:κ t=some (.sat (SlV e s [] 0 true)))(h:V P F B n O (upd κ t (.own (SlG e s 0 []))) c zpf):V P F B n O κ c zpf:=fun a u hh=>h a u (hh.toG hk)
def Has.pubG{t:Nat}{a:Act}(hk:κ t=some (.own (SlG e s m xs)))(h:Has F B O n κ a u):Has F B O n (upd κ t (.sat (SlV e s xs m false))) a u:=by
 obtain⟨H,fp,h⟩:=h;obtain⟨hv,hM⟩:=h.slot t _ hk;rcases hv with ⟨rfl,rfl,h3,_⟩ | hv
 ·exact⟨H,fp,h.setSat nw h3.nofu⟩
 ·have h2:=h.putR (d:=t) (r:=SlR e s m xs) (C:=fp t) (a':=a) rfl rfl (fun _ _=>rfl) hv hM (fun t' r' hne hk' k hf hc=>h.owns t' t _ _ hne hk' hk k hf hc);have h3:=Has.pubR (t:=t) (xj _ _ _) ⟨H,_,h2⟩
  rwa [jo] at h3
def zh2(t:Nat){c:Code}(hk:κ t=some (.own (SlG e s m xs)))(h:V P F B n O (upd κ t (.sat (SlV e s xs m false))) c zpf):V P F B n O κ c zpf:=fun a u hh=>h a u (hh.pubG hk)
def Cv(L:Tabs P){nn:Nat}(hm:0<m)(hn:Nat.blt d n=true)(hg:gK ops κ ⟨some d,.call ⟨.builtin .append,#[.tmp q,y],#[t,t]⟩,ty,pos,aft,g⟩=some true)
  (hq:κ q=some (.own (SlG e s nn xs))) (hy:Apd F B O κ y m news) (ht:L.sl t=some e) (he:elI P e=some (s,by_)) (hl:news.length=m*s) (h1:news.all vj=true) (hb:(nn+m)*by_<=140737488355328) (h63:nn+m<=9223372036854775807):
  wh P F B n ops O κ ⟨some d,.call ⟨.builtin .append,#[.tmp q,y],#[t,t]⟩,ty,pos,aft,g⟩ q fm d (.own (SlG e s (nn+m) (xs++news))):=by
 rintro κ' a u hlk hks ⟨H,fp,hh⟩;unfold After;rw[na (xf hh hlk hg)];have en:=hh.env hlk;obtain⟨i,z,hi,hz,hs1,hs2,hs3,hs4⟩:=w8 he;have hk':κ' q=some (.own (SlG e s nn xs)):=hks.trans hq;obtain⟨hown,hM⟩:=hh.slot q _ hk';have hyv:=hy _ a u H fp (by simp [Op.operands,Call.operands]) en;have h1':∀ v∈news,v.oneCell'=true:=fun v hv=>g7 (zlj.1 h1 v hv)
 have hap:∃ x' u' C',(Builtin.append_ #[t,t] ty #[a.eval (.tmp q),a.eval y]).run P u=.ok x' u'/\(SlR e s (nn+m) (xs++news)).P x' H u' C'/\Grow (fp q) u H u' H/\∀ k,C' k->(fp q k\/u.heap.size<=k)/\k<u'.heap.size/\H k=none:=by
  rcases hown with ⟨rfl,rfl,h3,hC⟩ | hown
  ·have hxx:a.eval (.tmp q)=.slice none 0 0\/∃ a0,a.eval (.tmp q)=.slice (some a0) 0 0:=by
    obtain⟨hl3,⟨_,p0,hx⟩ | ⟨b,off,cap,cs,ty0,fr,hx,hb1,_,hcp,hfu⟩⟩:=h3
    ·cases p0 with
     | none=>exact .inl hx
     | some a0=>exact .inr ⟨a0,hx⟩
    ·obtain rfl:=hfu rfl;exact .inr ⟨_,hx⟩
   rcases hxx with hx | ⟨a0,hx⟩
   ·refine By u (Tabs.sl_spec ht) hi hz hs1 hs2 hs3 hs4 hh.sub ⟨by simp,.inl ⟨rfl,hx,hC⟩⟩ (fun k hk=>⟨(hM k hk).1,(hM k hk).2.1⟩) hyv hl h1' h63 hb
   ·rcases hyv with ⟨rfl,_⟩ | ⟨ad,c,hye,hnews⟩
    ·omega
    ·subst hs1 hs2;have hr:=run_append_grow (P:=P) u t ty e i z (Tabs.sl_spec ht) hi hz a0 0 0 [] (by simp) (fun j v hj=>by simp at hj) ad m c news hl hnews T T (growslice_fits T hb);rw[hx,hye];have hmx:0+m<=maxLen:=by simp only[maxLen];omega
     have hge:=grownCap_ge u (0+m) 0 e
     refine⟨_,_,fun k=>k=u.heap.size,hr,⟨by simpa using hl,.inr ⟨u.heap.size,_,(Builtin.zeroCells z.cells (grownCap u (0+m) 0 e-(0+m))).toList,rfl,?_,hge,grownCap_le_maxLen u (0+m) 0 e hmx,?_,fun _=>Iff.rfl⟩⟩,⟨⟨rfl,rfl,rfl,by simp,fun k hk _=>jq u.drew _ hk,zl1 _⟩,fun k v hv=>by
      have:=hh.sub.size hv;show(u.drew.alloc _).heap[k]?=some v;rw[jq u.drew _ this];exact hh.sub k v hv,mo _,fun _ _ _=>rfl⟩,fun k hk=>by
      subst hk;exact⟨.inr (ns _),by simp,k7 hh.sub (ns _)⟩⟩
     ·rw[show u.heap.size=u.drew.heap.size from rfl,heap_alloc_new];congr 2;apply Array.ext';simp
     ·rw[mh,nr,hl,zlw,size_zeroCells,hs3,<-zl6];congr 1;omega
  ·exact By u (Tabs.sl_spec ht) hi hz hs1 hs2 hs3 hs4 hh.sub hown (fun k hk=>⟨(hM k hk).1,(hM k hk).2.1⟩) hyv hl h1' h63 hb
 obtain⟨x',u',C',hr,hown',hgr,hC'⟩:=hap
 have hrun:(execOp a.eval ⟨some d,.call ⟨.builtin .append,#[.tmp q,y],#[t,t]⟩,ty,pos,aft,g⟩).run P u=.ok (.value x') u':=by
  simp only[execOp,resolve,invoke,builtin,nu,me,ma,zlv,mp,zlm,hr]
 rw[hrun];simp only[Upon];exact⟨H,_,hh.usePut hk' hgr (by simp [Act.put]) Z (fun t ht=>xn ht) (by rw[xx (by rw[hh.size];exact zn hn)];exact .inr hown') hC'⟩
end
end Go.V
namespace Go.V
def RetX(P:Program)(f:FuncId)(args:List Value)(w:World)(B:Heap)(C:Nat->Prop)(r:GR)(v:Value):Prop:=
 RetL P f args w B C fun x H u=>x=v/\∃ C',r.P H u C'/\∀ k,C' k->(C k\/w.heap.size<=k)/\k<u.heap.size/\H k=none
section
def y7(L:Tabs P)(q:Nat)(r':GR)(v:Value){r:GR}{fo:Operand}
  (hn:Nat.blt d n=true) (hg:gK ops κ ⟨some d,.call { callee:=.value fo,args:=args,argTypes:=at_ },ty,pos,aft,g⟩=some true)
  (hf:evK κ fo=some (.func (.func f) #[] cap.toArray)) (hfn:L.fn f=some ()) (hq:κ q=some (.own r.res))
  (h:∀ u H C,zpg H u->B.Le H->r.P H u C->(ZCB C u H)->Args κ H args.toList [] (fun vs=>RetX P f (vs++cap) u H C r' v)):
  wh P F B n ops O κ ⟨some d,.call { callee:=.value fo,args:=args,argTypes:=at_ },ty,pos,aft,g⟩ q (.own r'.res) d (.is v):=by
 rintro κ' a u hlk hks ⟨H,fp,hh⟩;unfold After;rw[na (xf hh hlk hg)];have hk':κ' q=some (.own r.res):=hks.trans hq;obtain⟨hown,hM⟩:=hh.slot q _ hk';have e2:=hh.env hlk;have hfe:a.eval fo=.func (.func f) #[] cap.toArray:=e2.is_ fo _ (by simp [Op.operands,Call.operands]) hf;have hc:=Args.use e2 args.toList [] (fun x hx=>by simp [Op.operands,Call.operands] at hx |-;exact .inr hx) (h u H (fp q) hh.sub hh.base hown fun k hk=>⟨(hM k hk).1,(hM k hk).2.1⟩);simp only[zmb,mh] at hc;rw[vr L rfl hfe hfn];simp only[Upon];refine Calls.mono hc fun e' u' hp=>?_;obtain⟨x,rfl,H',g',hx,C',hv,hC'⟩:=hp;have h2:=hh.usePut (d:=q) (a':=a) (r':=r'.res) hk' g' rfl rfl (fun _ _=>rfl) hv hC';rw[jo] at h2;exact⟨x,Z,H',_,h2.put (k:=.is v) (zn hn) trivial hx⟩
def xv(L:Tabs P){fn:Func}(gs:Nat){r r':GR}{rs:List ResultVar}(hrs:fn.results=rs.toArray)
  (hQ:∀ a u,bodyPostM Fence.wide 0 P fn (ft F.w0 B0 F.L fun x H u=>x=v/\∃ C',r'.P H u C'/\∀ k,C' k->(F.L k\/F.w0.heap.size<=k)/\k<u.heap.size/\H k=none) .ret a u->zpf .ret a u) (hs:Since F B0 B) (hk:κ gs=some (.own r.res)) (e:r=r')
  (h:∀ H,B4 L F B O κ H rs [] (fun vs=>tup vs=v)) (hd:F.ds=[]:=by rfl):V P F B n O κ .ret zpf:=fun a u hh=>by
 obtain⟨H,fp,hH⟩:=hh;refine wpIn_ret (hQ a u ?_);have h0:=hH.defers;rw[hd] at h0;show LeavesInM _ _ _ _ _ _ a.defers _ _;rw[h0];subst e;obtain⟨vs,h1,h2⟩:=jv L hH hrs (h H);obtain⟨C',h3,h4⟩:=HasH.ghost hk hH;exact⟨_,h1,_,rfl,H,⟨hH.keep,hH.sub,hs.le.trans hH.base,fun k hk hl=>(hH.fresh k hk hl).trans (hs.fresh k hk hl)⟩,h2,C',h3,h4⟩
def Nk{k k2:IntKind}{q r:Int}(hn:Nat.blt d n=true)(hg:gK ops κ ⟨some d,.binOp .shl t x y t',ty,pos,aft,g⟩=some true)(hx:evK κ x=some (.int k p))(hy:evK κ y=some (.int k2 q))(h0:0<=q)(hb:k.wrap (p*2^min q.toNat k.bits)=r):
  StepOK P F B n ops O κ ⟨some d,.binOp .shl t x y t',ty,pos,aft,g⟩ d (.is (.int k r)):=w7 hn hg hx hy fun u=>by subst hb;simp [eqGuard_shl,binOp_shl,Op.shift,Int.not_lt.2 h0]
def Sv{k:IntKind}{q r:Int}(hn:Nat.blt d n=true)(hg:gK ops κ ⟨some d,.binOp .xor t x y t',ty,pos,aft,g⟩=some true)(hx:evK κ x=some (.int k p))(hy:evK κ y=some (.int k q))(hb:bits .xor k p q=r):
  StepOK P F B n ops O κ ⟨some d,.binOp .xor t x y t',ty,pos,aft,g⟩ d (.is (.int k r)):=w7 hn hg hx hy fun u=>by subst hb;simp [eqGuard_xor,binOp_xor,intBits_xor]
def ov{id:Nat}{x y:Code}{R:Exit->Act->World->Prop}(hm:zh8 P F B n R y zpf)(h:V P F B n O κ x (Exit.inBlock id R)):V P F B n O κ x (Exit.inBlock id (Exit.then (fun a u=>y.wpIn (FW F.r) 0 P zpf a u) zpf)):=fun a u hh=>by
 have key:∀ e a u,R e a u->Exit.then (fun a u=>y.wpIn (FW F.r) 0 P zpf a u) zpf e a u:=fun e a u he=>by
  cases e<;>first | exact hm.1 a u he | exact hm.2 _ a u (by intro h;cases h) he
 refine Go.wpIn_mono (h a u hh) fun e a u he=>?_
 cases e with
 | exit j=>
  simp only[Exit.inBlock] at he |-;split at he
  ·rename_i h;rw[na h];exact key _ _ _ he
  ·rename_i h;rw[nc h];exact key _ _ _ he
 | _=>exact key _ _ _ he
end
def uC(d:Array Int):List Value:=d.toList.map (Value.int .u64)
def Ac(d:Array Int):(uC d).length=d.size:=by simp [uC]
def zby{d:Array Int}(h:j<d.size):(uC d)[j]?=some (.int .u64 d[j]!):=by
 unfold uC;rw[zlu,zm8,zlk h,getElem!_pos d j h];rfl
def ux{d:Array Int}(h:j<d.size)(off:Nat)(ho:off=0+j*1):∃ r,(uC d++rest).drop off=.int .u64 d[j]! ::r:=by
 subst ho;rw[zlb,zmh];have hl:j<(uC d++rest).length:=by rw[nr,Ac];omega
 refine⟨(uC d++rest).drop (j+1),?_⟩;rw[zl9 hl];congr 1;have:=zby h;rw[<-zl2 (l₂:=rest) (by rw[Ac];exact h),zlh hl] at this;exact Option.some.inj this
def ve{d:Array Int}(z:Int)(h:j<d.size)(off:Nat)(ho:off=0+j*1):(uC d++rest).take off++([.int .u64 z]++(uC d++rest).drop (off+1))=uC (d.setIfInBounds j z)++rest:=by
 subst ho;rw[zlb,zmh]
 have h1:uC (d.setIfInBounds j z)=(uC d).set j (.int .u64 z):=by
  unfold uC;rw[zo0,List.map_set]
 rw[h1,zn2 (by rw[Ac];omega),zoj (by rw[Ac];omega),List.set_eq_take_append_cons_drop,na (by rw[Ac];exact h)];simp
def vg{d:Array Int}(h:j<d.size)(off:Nat)(ho:off=0+j*1):Nat.ble (off+1) (uC d++rest).length=true:=znf (by rw[nr,Ac];omega)
def u9(d:Array Int)(i j:Nat):(d.setIfInBounds i d[j]!).setIfInBounds j d[i]! =Go.Sort.swp d i j:=rfl
def jz(d:Array Int)(i j:Nat):(Go.Sort.swp d i j).size=d.size:=by unfold Go.Sort.swp;rw[Array.size_setIfInBounds,Array.size_setIfInBounds]
end Go.V
namespace Go.V
section
variable             {a:Act}  
end
end Go.V
namespace Go.V
section
end
end Go.V
namespace Go.V
section
def zh7(B:Heap)(v:Value):Prop:=∀ b o k m c,v=.slice (some ⟨b,o,k⟩) m c->B b=none
end
end Go.V
namespace Go.V
section
def Bi{b:Nat}{L:Nat->Prop}{o:Obj}(hs:zpg H u)(hL:L b)(hH:H b=none):Grow L u H (u.putObj b o) H:=
 ⟨⟨rfl,rfl,rfl,Nat.le_of_eq World.putObj_size.symm,fun k _ hk=>zof (fun e=>hk (e ▸ hL)),ns _⟩,fun k x hx=>by
  have:k≠b:=fun e=>by subst e;rw[hH] at hx;cases hx
  show(u.putObj b o).heap[k]?=some x;rw[zof this];exact hs k x hx,mo _,fun _ _ _=>rfl⟩
end
section
variable  {b:Frame} {a:Act} {k:List Item} {cs:List Frame} 
end
section
end
end Go.V
namespace Go.V
section
end
section
variable {V:Type} [DecidableEq K]
def fe(k:K):List (K×V)->Nat->Option (Nat×V)
 | [],_=>none
 | p::l,i=>if k=p.1 then some (i,p.2) else fe k l (i+1)
def ub(k:K)(l:List (K×V)):Option V:=(fe k l 0).map (·.2)
def Ly(k:K)(v:V):List (K×V)->List (K×V)
 | []=>[(k,v)]
 | p::l=>if k=p.1 then (p.1,v)::l else p::Ly k v l
def ew(k:K):∀ (l:List (K×V)) (i:Nat),fe k l (i+1)=(fe k l i).map fun p=>(p.1+1,p.2)
 | [],_=>rfl
 | p::l,i=>by
  unfold fe;split
  ·rfl
  ·exact ew k l (i+1)
def wy(k:K)(p:K×V)(l:List (K×V)):ub k (p::l)=if k=p.1 then some p.2 else ub k l:=by
 unfold ub;rw[fe];split
 ·rfl
 ·rw[ew,Option.map_map];rfl
def Nu(k k':K)(v:V):∀ l:List (K×V),ub k (Ly k' v l)=if k=k' then some v else ub k l
 | []=>by rw[Ly,wy]
 | p::l=>by
  rw[Ly];split
  ·rename_i h;rw[wy,wy];by_cases h1:k=p.1
   ·rw[na h1,na (h1.trans h.symm)]
   ·rw[nc h1,nc (fun e=>h1 (e.trans h))];rw[nc h1]
  ·rename_i h;rw[wy,wy,Nu k k' v l];by_cases h1:k=p.1
   ·rw[na h1,nc (fun e=>h (e.symm.trans h1)),na h1]
   ·rw[nc h1,nc h1]
def Bf{k:K}:∀ {l:List (K×V)} {i j:Nat} {x:V},fe k l i=some (j,x)->∃ n,j=i+n/\l[n]?=some (k,x)
 | [],_,_,_,h=>by cases h
 | p::l,i,j,x,h=>by
  unfold fe at h;split at h
  ·rename_i hk;cases h;exact⟨0,rfl,by subst hk;rfl⟩
  ·obtain⟨n,hn,hx⟩:=Bf h;exact⟨n+1,by omega,hx⟩
def i7{k:K}{v:V}:∀ {l:List (K×V)} {i:Nat},fe k l i=none->Ly k v l=l++[(k,v)]
 | [],_,_=>rfl
 | p::l,i,h=>by
  unfold fe at h;split at h
  ·cases h
  ·rename_i hk;rw[Ly,nc hk,i7 h];rfl
end
section
variable  {V:Type} [DecidableEq K] {kc:K->List Value} {vc:V->Value} {l:List (K×V)} {kt et:TypeId} {ls:List Nat}
end
section
variable             {a:Act}     
variable {Y:Type} [DecidableEq K] {kc:K->List Value} {vc:Y->Value} {l:List (K×Y)}
end
end Go.V
namespace Go.V
def v7{l:List α}{x:α}(h:l[i]?=some x):l.take (i+1)=l.take i++[x]:=by
 rw[zlc,h];rfl
section
def Has.relE{t:Nat}{b:Nat}{a:Act}(hk:κ q=some (.own (xk b xs e)))(ht:κ t=some (.is (.slice (some ⟨b,0,none⟩) m m)))(hl:xs.length=m*s)(hm:m<=maxLen)(hh:Has F B O n κ a u):Has F B O n (upd (upd κ q fm) t (.own (SlE e s m xs))) a u:=by
 obtain⟨H,fp,hh⟩:=hh;obtain⟨⟨hb,hC⟩,hM⟩:=hh.slot q _ hk;have hx:a.eval (.tmp t)=.slice (some ⟨b,0,none⟩) m m:=hh.slot t _ ht;exact⟨H,_,hh.usePut (d:=t) (a':=a) (r':=SlE e s m xs) (C:=fp q) hk ⟨Keep.refl _ _,hh.sub,mo _,fun _ _ _=>rfl⟩ Z Z (fun _ _=>rfl) ⟨hl,.inr ⟨b,hx,hb,hm,hC⟩⟩ fun k hk=>⟨.inl hk,(hM k hk).1,(hM k hk).2.1⟩⟩
def zcm(t q:Nat){b:Nat}{c:Code}(hk:κ q=some (.own (xk b xs e)))(ht:κ t=some (.is (.slice (some ⟨b,0,none⟩) m m)))(hl:xs.length=m*s)(hm:m<=maxLen)
  (h:V P F B n O (upd (upd κ q fm) t (.own (SlE e s m xs))) c zpf):V P F B n O κ c zpf:=fun a u hh=>h a u (hh.relE hk ht hl hm)
def StepOK.seeV(h:StepOK P F B n ops O κ o d (.is v))(hv:SlV e s xs m fu v B):StepOK P F B n ops O κ o d (.sat (SlV e s xs m fu)):=fun κ' a u hl hh=>
 After.mono (fun a' u' hh'=>by
  have h2:=hh'.seen (t:=d) (SlV e s xs m fu) (xj _ _ _) nw hv
  rwa [jo] at h2) (h κ' a u hl hh)
def Has.pubH{q b:Nat}{a:Act}(hk:κ q=some (.own (xk b cs t')))(hh:Has F B O n κ a u):∃ H,Since F B H/\B b=none/\H b=some (.cells cs.toArray t')/\Has F H O n (upd κ q fm) a u:=by
 obtain⟨H,fp,hh⟩:=hh;obtain⟨⟨hb,hC⟩,hM⟩:=hh.slot q _ hk;have hbm:=hM b ((hC b).2 rfl);obtain⟨H',h'⟩:=hh.pub (φ:=fun _ H=>H b=some (.cells cs.toArray t')) hk hb ((hC b).2 rfl) (fun _ _ _ h hle=>hle _ _ h) fun H' _ hb'=>hb';have hx:H' b=some (.cells cs.toArray t'):=h'.slot q _ (xj _ _ _);refine⟨H',h'.isSince,?_,hx,H',fp,?_⟩
 ·cases hB:B b with
  | none=>rfl
  | some z=>have:=hh.base _ _ hB;rw[hbm.2.1] at this;cases this
 ·have h2:=(h'.rebase).setSat (t:=q) (φ:=fun _ _=>True) (fun _ _ _ _ _=>trivial) trivial
  rwa [jo] at h2
def j8(q:Nat){b:Nat}{c:Code}(hk:κ q=some (.own (xk b cs t')))(h:∀ H,Since F B H->B b=none->H b=some (.cells cs.toArray t')->V P F H n O (upd κ q fm) c zpf):V P F B n O κ c zpf:=fun a u hh=>
 let ⟨H,h1,h2,h3,h4⟩:=hh.pubH hk;h H h1 h2 h3 a u h4
def Fj(L:Tabs P){fn:Func}{r:Res}{rs:List ResultVar}(hrs:fn.results=rs.toArray)
  (hQ:∀ a u,bodyPostM Fence.wide 0 P fn (ft F.w0 B0 F.L (zfh F.w0 r)) .ret a u->zpf .ret a u) (hs:Since F B0 B)
  (h:∀ H,B4 L F B O κ H rs [] (fun vs=>tup vs=v)) (hr:∀ H u,B.Le H->r.P v H u noL) (hd:F.ds=[]:=by rfl):V P F B n O κ .ret zpf:=fun a u hh=>by
 obtain⟨H,fp,hH⟩:=hh;refine wpIn_ret (hQ a u ?_);have h0:=hH.defers;rw[hd] at h0;show LeavesInM _ _ _ _ _ _ a.defers _ _;rw[h0];obtain⟨vs,h1,h2⟩:=jv L hH hrs (h H);exact⟨_,h1,_,rfl,H,⟨hH.keep,hH.sub,hs.le.trans hH.base,fun k hk hl=>(hH.fresh k hk hl).trans (hs.fresh k hk hl)⟩,noL,by rw[h2];exact hr H u hH.base,fun _ h=>h.elim⟩
end
section
variable             {Y:Type} [DecidableEq K] {kc:K->List Value} {vc:Y->Value} {l:List (K×Y)}
end
end Go.V
namespace Go.V
section
end
end Go.V
namespace Go.V
def SlW(e:TypeId)(s n:Nat)(xs:List Value):Value->Heap->Prop:=fun v H=>xs.length=n*s/\((n=0/\v=.slice none 0 0)\/∃ b cap rest,v=.slice (some ⟨b,0,none⟩) n cap/\H b=some (.cells (xs++rest).toArray e)/\n<=cap/\cap<=maxLen/\(xs++rest).length=cap*s)
def SlW.toV{s n:Nat}(h:SlW e s n xs v H):SlV e s xs n false v H:=⟨h.1,by
 rcases h.2 with ⟨h1,h2⟩ | ⟨b,cap,rest,h1,h2,h3,_,_⟩
 ·exact .inl ⟨h1,_,h2⟩
 ·exact .inr ⟨b,0,cap,_,_,(0,0),h1,h2,by show((xs++rest).drop 0).take xs.length=_;rw[zl7,List.take_left],h3,fun h=>by cases h⟩⟩
section
def Has.pubW{t:Nat}{s m:Nat}{a:Act}(hk:κ t=some (.own (SlR e s m xs)))(hh:Has F B O n κ a u):∃ x H,Since F B H/\zh7 B x/\SlW e s m xs x H/\Has F H O n (upd κ t (.is x)) a u:=by
 obtain⟨H,fp,hh⟩:=hh;obtain⟨⟨hl,hv⟩,hM⟩:=hh.slot t _ hk;rcases hv with ⟨h0,hv,hC⟩ | ⟨b,cap,rest,hv,hb,h3,h4,h5,hC⟩
 ·exact⟨_,H,hh.isSince,(fun b o k m c e=>by rw[hv] at e;cases e),⟨hl,.inl ⟨h0,hv⟩⟩,H,fp,(hh.name t).rebase⟩
 ·have hbm:=hM b ((hC b).2 rfl);obtain⟨H',h'⟩:=hh.pub (φ:=fun v H=>v=.slice (some ⟨b,0,none⟩) m cap/\H b=some (.cells (xs++rest).toArray e)) hk hb ((hC b).2 rfl) (fun _ _ _ h hle=>⟨h.1,hle _ _ h.2⟩) fun H' _ hb'=>⟨hv,hb'⟩
  have hx:=h'.slot t _ (xj _ _ _)
  have hB:B b=none:=by
   cases hB:B b with
   | none=>rfl
   | some z=>have:=hh.base _ _ hB;rw[hbm.2.1] at this;cases this
  have h2:=(h'.name t).rebase;rw[jo] at h2;exact⟨_,H',h'.isSince,(fun b' o k m c e=>by rw[hv] at e;cases e;exact hB),⟨hl,.inr ⟨b,cap,rest,hv,hx.2,h3,h4,h5⟩⟩,H',fp,h2⟩
def V8(t:Nat){c:Code}(hk:κ t=some (.own (SlR e s m xs)))(h:∀ x H,Since F B H->zh7 B x->SlW e s m xs x H->V P F H n O (upd κ t (.is x)) c zpf):V P F B n O κ c zpf:=fun a u hh=>
 let ⟨x,H,h1,h2,h3,h4⟩:=hh.pubW hk;h x H h1 h2 h3 a u h4
def Qd(L:Tabs P){b cap:Nat}{nn:Nat}(hn:Nat.blt d n=true)(hg:gK ops κ ⟨some d,.call ⟨.builtin .append,#[x,y],#[t,t]⟩,ty,pos,aft,g⟩=some true)
  (hx:evK κ x=some (.slice (some ⟨b,0,none⟩) nn cap)) (hq:κ q=some (.own (xk b (xs++rest) e))) (hxl:xs.length=nn*s) (hnc:nn<=cap) (hcm:cap<=maxLen) (hcl:(xs++rest).length=cap*s) (hy:Apd F B O κ y m news) (ht:L.sl t=some e) (he:elI P e=some (s,by_)) (hl:news.length=m*s) (h1:news.all vj=true) (hb:(nn+m)*by_<=140737488355328) (h63:nn+m<=9223372036854775807):
  wh P F B n ops O κ ⟨some d,.call ⟨.builtin .append,#[x,y],#[t,t]⟩,ty,pos,aft,g⟩ q fm d (.own (SlR e s (nn+m) (xs++news))):=by
 rintro κ' a u hlk hks ⟨H,fp,hh⟩;unfold After;rw[na (xf hh hlk hg)];have en:=hh.env hlk;obtain⟨i,z,hi,hz,hs1,hs2,hs3,hs4⟩:=w8 he;have hxe:=en.is_ x _ (by simp [Op.operands,Call.operands]) hx;have hk':κ' q=some (.own (xk b (xs++rest) e)):=hks.trans hq;obtain⟨⟨hb',hC⟩,hM⟩:=hh.slot q _ hk';have hown:(SlR e s nn xs).P (.slice (some ⟨b,0,none⟩) nn cap) H u (fp q):=⟨hxl,.inr ⟨b,cap,rest,rfl,hb',hnc,hcm,hcl,hC⟩⟩
 obtain⟨x',u',C',hr,hown',hgr,hC'⟩:=By u (aty:=ty) (Tabs.sl_spec ht) hi hz hs1 hs2 hs3 hs4 hh.sub hown (fun k hk=>⟨(hM k hk).1,(hM k hk).2.1⟩) (hy _ a u H fp (by simp [Op.operands,Call.operands]) en) hl (fun v hv=>g7 (zlj.1 h1 v hv)) h63 hb
 have hrun:(execOp a.eval ⟨some d,.call ⟨.builtin .append,#[x,y],#[t,t]⟩,ty,pos,aft,g⟩).run P u=.ok (.value x') u':=by
  simp only[execOp,resolve,invoke,builtin,nu,me,ma,zlv,mp,zlm,hxe,hr]
 rw[hrun];simp only[Upon];exact⟨H,_,hh.usePut hk' hgr (by simp [Act.put]) Z (fun t ht=>xn ht) (by rw[xx (by rw[hh.size];exact zn hn)];exact hown') hC'⟩
end
def Has.nilAt(g:Nat)(e:TypeId)(s:Nat){a:Act}(hh:Has F B O n κ a u):Has F B O n (upd κ g (.own (AtV (.slice none 0 0) (SlR e s 0 [])))) a u:=by
 obtain⟨H,fp,hh⟩:=hh;exact⟨H,_,hh.putR (C:=noL) (a':=a) Z Z (fun _ _=>rfl) ⟨by simp,.inl ⟨rfl,rfl,fun _ h=>h⟩⟩ (fun _ h=>h.elim) fun _ _ _ _ _ _ h=>h⟩
def V9(g:Nat)(e:TypeId)(s:Nat){c:Code}(h:V P F B n O (upd κ g (.own (AtV (.slice none 0 0) (SlR e s 0 [])))) c zpf):V P F B n O κ c zpf:=fun a u hh=>h a u (hh.nilAt g e s)
end Go.V
namespace Go.V
def ae(r1 r2:Res):Res where
 P v H u C:=∃ C1 C2:Nat->Prop,r1.P v H u C1/\r2.P v H u C2/\(∀ k,C k↔C1 k\/C2 k)/\∀ k,C1 k->¬ C2 k
 st:=fun⟨C1,C2,h1,h2,h3,h4⟩ hle hs ho hk=>⟨C1,C2,r1.st h1 hle hs ho fun k hc=>hk k ((h3 k).2 (.inl hc)),r2.st h2 hle hs ho fun k hc=>hk k ((h3 k).2 (.inr hc)),h3,h4⟩
def uw(r1 r2:GR):GR where
 P H u C:=∃ C1 C2:Nat->Prop,r1.P H u C1/\r2.P H u C2/\(∀ k,C k↔C1 k\/C2 k)/\∀ k,C1 k->¬ C2 k
 st:=fun⟨C1,C2,h1,h2,h3,h4⟩ hle hs ho hk=>⟨C1,C2,r1.st h1 hle hs ho fun k hc=>hk k ((h3 k).2 (.inl hc)),r2.st h2 hle hs ho fun k hc=>hk k ((h3 k).2 (.inr hc)),h3,h4⟩
def wo(r1 r2:GR):(uw r1 r2).res=ae r1.res r2.res:=rfl
def GEx{X:Type}(r:X->GR)(φ:X->Heap->Prop)(hφ:a7 φ):GR where
 P H u C:=∃ x,φ x H/\(r x).P H u C
 st:=fun⟨x,h1,h2⟩ hle hs hon hk=>⟨x,hφ _ _ _ h1 hle,(r x).st h2 hle hs hon hk⟩
section
variable              {a:Act}  
def Has.part{g1:Nat}(hne:q≠g1)(hg1:∀ v v' H u C,r2.P v H u C->r2.P v' H u C)(hk:κ q=some (.own (ae r1 r2)))(h:Has F B O n κ a u):Has F B O n (upd (upd κ q (.own r1)) g1 (.own r2)) a u:=by
 obtain⟨H,fp,hh⟩:=h;obtain⟨⟨C1,C2,h1,h2,h3,h4⟩,hM⟩:=hh.slot q _ hk;have e2:=hh.putR (d:=q) (r:=r1) (C:=C1) (a':=a) rfl rfl (fun _ _=>rfl) h1 (fun k hk'=>hM k ((h3 k).2 (.inl hk'))) (fun t r' hne' hk' k hf hc=>hh.owns t q _ _ hne' hk' hk k hf ((h3 k).2 (.inl hc)))
 have e3:=e2.putR (d:=g1) (r:=r2) (C:=C2) (a':=a) rfl rfl (fun _ _=>rfl) (hg1 _ _ _ _ _ h2) (fun k hk'=>hM k ((h3 k).2 (.inr hk'))) (fun t r' hne' hk' k hf hc=>by
  by_cases e:t=q
  ·subst e;rw[od] at hf;exact h4 k hf hc
  ·rw[du _ _ e] at hf;rw[xd _ _ e] at hk';exact hh.owns t q _ _ e hk' hk k hf ((h3 k).2 (.inr hc)))
 exact⟨H,_,e3⟩
def Has.join2{q g1:Nat}{r1 r2:Res}(hne:q≠g1)(hg1:∀ v v' H u C,r2.P v H u C->r2.P v' H u C)(hk:κ q=some (.own r1))(hk1:κ g1=some (.own r2))(h:Has F B O n κ a u):Has F B O n (upd (upd κ g1 fm) q (.own (ae r1 r2))) a u:=by
 obtain⟨H,fp,hh⟩:=h;obtain⟨h1,hM⟩:=hh.slot q _ hk;obtain⟨h2,hM1⟩:=hh.slot g1 _ hk1;have e1:=hh.drop1 g1;have hkq:upd κ g1 fm q=some (.own r1):=by rw[xd _ _ hne];exact hk
 have e2:=e1.putR (d:=q) (r:=ae r1 r2) (C:=fun k=>fp q k\/fp g1 k) (a':=a) rfl rfl (fun _ _=>rfl) ⟨fp q,fp g1,h1,hg1 _ _ _ _ _ h2,fun _=>Iff.rfl,hh.owns q g1 _ _ hne hk hk1⟩
  (fun k hk'=>hk'.elim (hM k) (hM1 k)) (fun t r' hne' hk' k hf hc=>by
   by_cases e:t=g1
   ·subst e;rw[xj] at hk';cases hk'
   ·rw[xd _ _ e] at hk';rcases hc with hc | hc
    ·exact hh.owns t q _ _ hne' hk' hk k hf hc
    ·exact hh.owns t g1 _ _ e hk' hk1 k hf hc)
 exact⟨H,_,e2⟩
def vz(q g1:Nat){c:Code}(hk:κ q=some (.own (ae r1 r2)))(hg1:∀ v v' H u C,r2.P v H u C->r2.P v' H u C)(h:V P F B n O (upd (upd κ q (.own r1)) g1 (.own r2)) c zpf)(hne:q≠g1:=by decide):V P F B n O κ c zpf:=fun a u hh=>h a u (hh.part hne hg1 hk)
def jt(q g1:Nat){c:Code}(hk:κ q=some (.own r1))(hk1:κ g1=some (.own r2))(hg1:∀ v v' H u C,r2.P v H u C->r2.P v' H u C)(h:V P F B n O (upd (upd κ g1 fm) q (.own (ae r1 r2))) c zpf)(hne:q≠g1:=by decide):V P F B n O κ c zpf:=fun a u hh=>h a u (hh.join2 hne hg1 hk hk1)
def ig(q g1:Nat)(hk:κ q=some (.own r1))(hk1:κ g1=some (.own r2))(hg1:∀ v v' H u C,r2.P v H u C->r2.P v' H u C)(h:N F B n O (upd (upd κ g1 fm) q (.own (ae r1 r2))) zpf)(hne:q≠g1:=by decide):N F B n O κ zpf:=fun a u hh=>h a u (hh.join2 hne hg1 hk hk1)
def Kl(q g1:Nat)(hk:κ q=some (.own (ae r1 r2)))(hg1:∀ v v' H u C,r2.P v H u C->r2.P v' H u C)(h:VO P F B n O ops (upd (upd κ q (.own r1)) g1 (.own r2)) os zpf)(hne:q≠g1:=by decide):VO P F B n O ops κ os zpf:=fun a u hh=>h a u (hh.part hne hg1 hk)
def jg(q g1:Nat)(hk:κ q=some (.own r1))(hk1:κ g1=some (.own r2))(hg1:∀ v v' H u C,r2.P v H u C->r2.P v' H u C)(h:VO P F B n O ops (upd (upd κ g1 fm) q (.own (ae r1 r2))) os zpf)(hne:q≠g1:=by decide):VO P F B n O ops κ os zpf:=fun a u hh=>h a u (hh.join2 hne hg1 hk hk1)
def xe(r:GR):∀ (v v':Value) H u C,r.res.P v H u C->r.res.P v' H u C:=fun _ _ _ _ _ h=>h
def l5(b:Nat)(cs:List Value)(ty:TypeId):∀ (v v':Value) H u C,(xk b cs ty).P v H u C->(xk b cs ty).P v' H u C:=fun _ _ _ _ _ h=>h
def Fg(x:Value)(r:Res):∀ (v v':Value) H u C,(AtV x r).P v H u C->(AtV x r).P v' H u C:=fun _ _ _ _ _ h=>h
def Has.turnO{t:Nat}{r r':Res}(hk:κ t=some (.own r))(hr:∀ v H u C,B.Le H->r.P v H u C->r'.P v H u C)(h:Has F B O n κ a u):Has F B O n (upd κ t (.own r')) a u:=by
 obtain⟨H,fp,h⟩:=h;exact⟨H,fp,h.turnR hk (hr _ _ _ _ h.base (h.slot t _ hk).1)⟩
def w5(t:Nat){r:Res}(r':Res){c:Code}(hk:κ t=some (.own r))(hr:∀ v H u C,B.Le H->r.P v H u C->r'.P v H u C)(h:V P F B n O (upd κ t (.own r')) c zpf):V P F B n O κ c zpf:=fun a u hh=>h a u (hh.turnO hk hr)
def zfi(t:Nat){r:Res}(r':Res)(hk:κ t=some (.own r))(hr:∀ v H u C,B.Le H->r.P v H u C->r'.P v H u C)(h:N F B n O (upd κ t (.own r')) zpf):N F B n O κ zpf:=fun a u hh=>h a u (hh.turnO hk hr)
def RetY(P:Program)(f:FuncId)(args:List Value)(w:World)(B:Heap)(C:Nat->Prop)(r:GR)(φ:Value->Heap->Prop):Prop:=
 RetL P f args w B C fun x H u=>φ x H/\∃ C',r.P H u C'/\∀ k,C' k->(C k\/w.heap.size<=k)/\k<u.heap.size/\H k=none
def RetY.mono{f:FuncId}{args:List Value}{w:World}{C:Nat->Prop}{r:GR}{φ ψ:Value->Heap->Prop}(h:RetY P f args w B C r φ)(hi:∀ v H,B.Le H->φ v H->ψ v H):RetY P f args w B C r ψ:=RetL.mono h fun v H u hg hp=>⟨hi v H hg.le hp.1,hp.2⟩
def RetX.toY{f:FuncId}{args:List Value}{r:GR}(h:RetX P f args w B C r v):RetY P f args w B C r (fun x _=>x=v):=RetL.mono h fun _ _ _ _ hp=>hp
def A7(L:Tabs P)(q:Nat)(r':GR)(φ:Value->Heap->Prop){r:GR}{fo:Operand}
  (hn:Nat.blt d n=true) (hg:gK ops κ ⟨some d,.call { callee:=.value fo,args:=args,argTypes:=at_ },ty,pos,aft,g⟩=some true)
  (hf:evK κ fo=some (.func (.func f) #[] cap.toArray)) (hfn:L.fn f=some ()) (hq:κ q=some (.own r.res)) (hm:Kn.mono (.sat φ))
  (h:∀ u H C,zpg H u->B.Le H->r.P H u C->(ZCB C u H)->Args κ H args.toList [] (fun vs=>RetY P f (vs++cap) u H C r' φ)):
  wh P F B n ops O κ ⟨some d,.call { callee:=.value fo,args:=args,argTypes:=at_ },ty,pos,aft,g⟩ q (.own r'.res) d (.sat φ):=by
 rintro κ' a u hlk hks ⟨H,fp,hh⟩;unfold After;rw[na (xf hh hlk hg)];have hk':κ' q=some (.own r.res):=hks.trans hq;obtain⟨hown,hM⟩:=hh.slot q _ hk';have e2:=hh.env hlk;have hfe:a.eval fo=.func (.func f) #[] cap.toArray:=e2.is_ fo _ (by simp [Op.operands,Call.operands]) hf;have hc:=Args.use e2 args.toList [] (fun x hx=>by simp [Op.operands,Call.operands] at hx |-;exact .inr hx) (h u H (fp q) hh.sub hh.base hown fun k hk=>⟨(hM k hk).1,(hM k hk).2.1⟩);simp only[zmb,mh] at hc;rw[vr L rfl hfe hfn];simp only[Upon];refine Calls.mono hc fun e' u' hp=>?_;obtain⟨x,rfl,H',g',hx,C',hv,hC'⟩:=hp;have h2:=hh.usePut (d:=q) (a':=a) (r':=r'.res) hk' g' rfl rfl (fun _ _=>rfl) hv hC';rw[jo] at h2;exact⟨x,rfl,H',_,h2.put (k:=.sat φ) (zn hn) hm hx⟩
def vw(L:Tabs P){fn:Func}(gs:Nat){r r':GR}{rs:List ResultVar}(hrs:fn.results=rs.toArray)
  (hQ:∀ a u,bodyPostM Fence.wide 0 P fn (ft F.w0 B0 F.L fun x H u=>φ x H/\∃ C',r'.P H u C'/\∀ k,C' k->(F.L k\/F.w0.heap.size<=k)/\k<u.heap.size/\H k=none) .ret a u->zpf .ret a u) (hs:Since F B0 B) (hk:κ gs=some (.own r.res)) (e:r=r')
  (h:∀ H,B.Le H->B4 L F B O κ H rs [] (fun vs=>φ (tup vs) H)) (hd:F.ds=[]:=by rfl):V P F B n O κ .ret zpf:=fun a u hh=>by
 obtain⟨H,fp,hH⟩:=hh;refine wpIn_ret (hQ a u ?_);have h0:=hH.defers;rw[hd] at h0;show LeavesInM _ _ _ _ _ _ a.defers _ _;rw[h0];subst e;obtain⟨vs,h1,h2⟩:=jv L hH hrs (h H hH.base);obtain⟨C',h3,h4⟩:=HasH.ghost hk hH;exact⟨_,h1,_,rfl,H,⟨hH.keep,hH.sub,hs.le.trans hH.base,fun k hk hl=>(hH.fresh k hk hl).trans (hs.fresh k hk hl)⟩,h2,C',h3,h4⟩
end
end Go.V
namespace Go.V
section
variable             {a:Act}    
end
end Go.V
namespace Go.V
section
def Tj{k:IntKind}{q r:Int}(hn:Nat.blt d n=true)(hg:gK ops κ ⟨some d,.binOp .and t x y t',ty,pos,aft,g⟩=some true)(hx:evK κ x=some (.int k p))(hy:evK κ y=some (.int k q))(hb:bits .and k p q=r):
  StepOK P F B n ops O κ ⟨some d,.binOp .and t x y t',ty,pos,aft,g⟩ d (.is (.int k r)):=w7 hn hg hx hy fun u=>by subst hb;simp [eqGuard_and,binOp_and,intBits_and]
end
end Go.V
namespace Go.V
section
def zi9{k:IntKind}{q r:Int}(hn:Nat.blt d n=true)(hg:gK ops κ ⟨some d,.binOp .or t x y t',ty,pos,aft,g⟩=some true)(hx:evK κ x=some (.int k p))(hy:evK κ y=some (.int k q))(hb:bits .or k p q=r):
  StepOK P F B n ops O κ ⟨some d,.binOp .or t x y t',ty,pos,aft,g⟩ d (.is (.int k r)):=w7 hn hg hx hy fun u=>by subst hb;simp [eqGuard_or,binOp_or,intBits_or]
end
def zfb(h:m<=255):bits .and .u8 m 127=((m%128:Nat):Int):=by
 have:∀ x:Fin 256,bits .and .u8 (x.val:Int) 127=((x.val%128:Nat):Int):=by decide+kernel
 exact this ⟨m,by omega⟩
def zb5{a b:Nat}(ha:a<2^i):a ||| (b*2^i)=a+b*2^i:=by
 rw[Nat.or_comm,<-zok,<-Nat.shiftLeft_add_eq_or_of_lt ha];omega
end Go.V
namespace Go.V
section
variable  [DecidableEq α]
def dd:List α->List α
 | []=>[]
 | [x]=>[x]
 | x::y::l=>if x=y then dd (y::l) else x::dd (y::l)
def Me:∀ (l:List α) (y z:α),l.getLast?=some y->dd (l++[z])=if z=y then dd l else dd l++[z]
 | [],_,_,h=>by simp at h
 | [x],y,z,h=>by
  simp at h;subst h;by_cases e:z=x
  ·subst e;simp [dd]
  ·have e':¬ x=z:=fun h=>e h.symm;simp [dd,e,e']
 | x::w::l,y,z,h=>by
  have ih:=Me (w::l) y z (by simpa using h);simp only[zll] at ih |-;simp only[dd];by_cases e:x=w
  ·rw[na e,na e];exact ih
  ·rw[nc e,nc e,ih];split
   ·rfl
   ·rfl
def zeu:∀ (l:List α),(dd l).getLast?=l.getLast?
 | []=>rfl
 | [x]=>rfl
 | x::y::l=>by
  have ih:=zeu (y::l);simp only[dd];split
  ·rw[ih];simp
  ·rw[List.getLast?_cons,ih];simp [List.getLast?_cons]
def Oe{z:α}:∀ {l:List α},z∈dd l↔z∈l
 | []=>Iff.rfl
 | [x]=>Iff.rfl
 | x::y::l=>by
  have ih:=Oe (z:=z) (l:=y::l);simp only[dd];split
  ·rename_i e;subst e;rw[ih];simp
  ·rw[nz,ih,nz (a:=z) (b:=x)]
def Hv:∀ (l:List α),(dd l).length<=l.length
 | []=>ns _
 | [x]=>ns _
 | x::y::l=>by
  have ih:=Hv (y::l);simp only[dd];split
  ·simp only[ny] at ih |-;omega
  ·simp only[ny] at ih |-;omega
variable {c:α->α->Int}
def U6(h:Ord3 c):∀ {l:List α},(l.Pairwise fun a b=>¬ c b a<0)->Sst c (dd l)
 | [],_=>Sst.nil
 | [x],_=>zmi ..
 | x::y::l,hs=>by
  have h1:=mg.1 hs;have ih:=U6 h h1.2;simp only[dd];split
  ·exact ih
  ·rename_i e;refine mg.2 ⟨fun z hz=>?_,ih⟩;have hxy:c x y<0:=h.tri (h1.1 y (mb ..)) (fun e'=>e e'.symm);rcases nz.1 (Oe.1 hz) with rfl | hz'
   ·exact hxy
   ·have h2:=(mg.1 h1.2).1 z hz';by_cases e2:y=z
    ·rw[<-e2];exact hxy
    ·exact h.tr hxy (h.tri h2 (fun e'=>e2 e'.symm))
def zet(h:Ord3 c){l l':List α}(hs:SoP c l l'):dd l'=u5 c [] l:=l8 h (U6 h hs.2) (p9 h Sst.nil) fun z=>by
 rw[Oe,dj,hs.1.mem_iff];simp
end
def lj{l:List α}{a:α}(h:l[i]?=some a):l[i]'(get_lt h)=a:=by
 have h1:=h;rw[zlh (get_lt h)] at h1;exact Option.some.inj h1
section
variable  {c:α->α->Int}
def cr(c:α->α->Int)(t:α)(l:List α):Nat:=(l.takeWhile fun x=>decide (c x t<0)).length
def Eb(t:α):∀ (l:List α),cr c t l<=l.length
 | []=>ns _
 | x::l=>by
  have:=Eb t l;unfold cr at this |-;rw[zms];split
  ·simp only[ny];omega
  ·simp
def Lg(h:Ord3 c){t:α}:∀ {l:List α} {i:Nat},Sst c l->(∀ (j:Nat) (x:α),j<i->l[j]?=some x->c x t<0)->(∀ (j:Nat) (x:α),i<=j->l[j]?=some x->¬ c x t<0)->i<=l.length->cr c t l=i
 | [],i,_,_,_,hi=>by simp at hi;subst hi;rfl
 | x::l,0,_,_,h2,_=>by
  unfold cr;rw[zms,nc (by simpa using h2 0 x (ns _) rfl)];rfl
 | x::l,i+1,hs,h1,h2,hi=>by
  have ih:=Lg h (t:=t) (l:=l) (i:=i) (mg.1 hs).2 (fun j y hj hy=>h1 (j+1) y T (by simpa using hy)) (fun j y hj hy=>h2 (j+1) y T (by simpa using hy)) (by simpa using hi);unfold cr at ih |-;rw[zms,na (by simpa using h1 0 x (Nat.succ_pos _) rfl),ny,ih]
def ai(h:Ord3 c){l:List α}(hs:Sst c l){i j:Nat}{x y t:α}(hi:l[i]?=some x)(hj:l[j]?=some y)(hij:j<=i)(hx:c x t<0):c y t<0:=by
 rcases m5 j i with hlt | hge
 ·have h1:=zmk.1 hs j i (get_lt hj) (get_lt hi) hlt;rw[lj hj,lj hi] at h1;exact h.tr h1 hx
 ·have:i=j:=T;subst this;rw[hi] at hj;cases hj;exact hx
def zb9(h:Ord3 c){t:α}{l:List α}(hs:Sst c l)(h1:∀ (j:Nat) (x:α),j<i->l[j]?=some x->c x t<0){x:α}(hx:l[i]?=some x)(h2:∀ (j:Nat) (y:α),i<=j->l[j]?=some y->¬ c y t<0):t∈l↔c x t=0:=by
 constructor
 ·intro ht;obtain⟨j,hj⟩:=zlx ht;rcases zol j i with hlt | he | hgt
  ·exact ni (h1 j t hlt hj) (h.irr t)
  ·subst he;rw[hx] at hj;cases hj;exact h.refl t
  ·have h3:=zmk.1 hs i j (get_lt hx) (get_lt hj) hgt;rw[lj hj,lj hx] at h3;exact ni h3 (h2 i x (ns _) hx)
 ·intro e;have:=h.eq _ _ e;subst this;exact zln hx
def Bb(h:Ord3 c){t:α}{l:List α}(h1:∀ (j:Nat) (x:α),j<l.length->l[j]?=some x->c x t<0):t∉l:=fun ht=>by
 obtain⟨j,hj⟩:=zlx ht;exact ni (h1 j t (get_lt hj) hj) (h.irr t)
end
end Go.V
namespace Go.V.L10
open Go.V
def cP(a b:Int):Int:=if a<b then -1 else if b<a then 1 else 0
def fz:Ord3 cP:=⟨fun a=>by unfold cP;simp,fun a b h=>by unfold cP at h;split at h<;>(try split at h)<;>omega,fun a b=>by unfold cP;split<;>(try split)<;>(try split)<;>omega,fun a b d h1 h2=>by
 unfold cP at h1 h2 |-;split at h1<;>(try split at h1)<;>split at h2<;>(try split at h2)<;>split<;>(try split)<;>omega⟩
def Vu{a b:Int}:cP a b<0↔a<b:=by unfold cP;split<;>(try split)<;>omega
def kj(L:List Int):List Int:=u5 cP [] L
def jl{L:List Int}{z:Int}:z∈kj L↔z∈L:=by unfold kj;rw[dj];simp
def v8(L:List Int):Sst cP (kj L):=p9 fz Sst.nil
def fh(L:List Int):(kj L).length<=L.length:=by have:=bi (c:=cP) L [];simpa [kj] using this
def xc(L:List Int):List (Int×Int):=(kj L).map fun r=>(r,(L.count r:Int))
def ws(L:List Int):(xc L).length=(kj L).length:=by unfold xc;simp
def Aw{L:List Int}{r:Int}(h:(kj L)[i]?=some r):(xc L)[i]?=some (r,(L.count r:Int)):=by unfold xc;rw[List.getElem?_map,h];rfl
section
variable  {c:α->α->Int}
def Hk(h:Ord3 c){t:α}:∀ {l:List α},t∉l->tg c t l=l.take (cr c t l)++t::l.drop (cr c t l)
 | [],_=>rfl
 | y::l,hn=>by
  have hne:y≠t:=fun e=>hn (e ▸ mb ..);have ih:=Hk h (l:=l) (t:=t) fun hm=>hn (mc _ hm);unfold tg cr;rw[zms];by_cases hc:c y t<0
  ·rw[nc (h.asym hc),na (by simpa using hc),ny,zm7,List.drop_succ_cons,ih];rfl
  ·rw[na (h.tri hc hne),nc (by simpa using hc)];rfl
def Ld(h:Ord3 c){t:α}:∀ {l:List α},Sst c l->t∈l->l[cr c t l]?=some t
 | [],_,hm=>(by cases hm)
 | y::l,hs,hm=>by
  unfold cr;rw[zms];have h1:=mg.1 hs;by_cases hc:c y t<0
  ·rcases nz.1 hm with e | hm
   ·subst e;exact ni hc (h.irr _)
   ·rw[na (by simpa using hc),ny,zmm];exact Ld h h1.2 hm
  ·rw[nc (by simpa using hc)];rcases nz.1 hm with e | hm
   ·subst e;rfl
   ·exact ni (h1.1 t hm) hc
def zdd(h:Ord3 c){l:List α}(hs:Sst c l){x:α}(hi:l[i]?=some x)(hj:l[j]?=some x):i=j:=by
 have key:∀ {i j:Nat},i<j->l[i]?=some x->l[j]?=some x->False:=fun {i j} hlt hi hj=>by
  have h1:=zmk.1 hs i j (get_lt hi) (get_lt hj) hlt;rw[lj hi,lj hj] at h1;exact h.irr _ h1
 rcases zol i j with hlt | he | hlt
 ·exact(key hlt hi hj).elim
 ·exact he
 ·exact(key hlt hj hi).elim
def map_erase{β:Type}(f:α->β)(l:List α)(i:Nat):(l.map f).eraseIdx i=(l.eraseIdx i).map f:=by
 rw[List.eraseIdx_eq_take_drop_succ,List.eraseIdx_eq_take_drop_succ,zli,zml,zmz]
end
def Cc{L:List Int}{r:Int}(h:r∈L):kj (L++[r])=kj L:=l8 fz (v8 _) (v8 _) fun z=>by
 rw[jl,jl,mn,m6];exact⟨fun h1=>h1.elim id fun e=>e ▸ h,.inl⟩
def Da{L:List Int}{r:Int}(h:r∉L):kj (L++[r])=(kj L).take (cr cP r (kj L))++r::(kj L).drop (cr cP r (kj L)):=by
 have hn:r∉kj L:=fun hm=>h (jl.1 hm);rw[<-Hk fz hn]
 exact l8 fz (v8 _) (d9 fz (v8 _) hn) fun z=>by
  rw[jl,u4,jl,mn,m6,or_comm]
def As{L:List Int}{r:Int}(h:r∈L):xc (L++[r])=(xc L).set (cr cP r (kj L)) (r,(L.count r:Int)+1):=by
 have hp:=Ld fz (v8 L) (jl.2 h);apply zn6;intro i;unfold xc;rw[Cc h,List.getElem?_set,zlu,zlu,mt];by_cases e:cr cP r (kj L)=i
 ·subst e;rw[na rfl,na (get_lt hp),hp];simp [znp]
 ·rw[nc e]
  cases hi:(kj L)[i]? with
  | none=>rfl
  | some x=>
   have hxr:x≠r:=fun hx=>e (by subst hx;exact zdd fz (v8 L) hp hi);simp [znp,List.count_cons,hxr.symm]
def Lh{L:List Int}{r:Int}(h:r∉L):xc (L++[r])=(xc L).take (cr cP r (kj L))++(r,1)::(xc L).drop (cr cP r (kj L)):=by
 have key:∀ l:List Int,(∀ x∈l,x∈L)->l.map (fun x=>(x,((L++[r]).count x:Int)))=l.map fun x=>(x,(L.count x:Int)):=fun l hl=>zom fun x hx=>by
  have hxr:x≠r:=fun e=>h (e ▸ hl x hx);simp [znp,List.count_cons,hxr.symm]
 unfold xc;rw[Da h,zli,mp,zml,zmz,<-zml,<-zmz,key _ fun x hx=>jl.1 (zn8 hx),key _ fun x hx=>jl.1 (zo2 hx),zml,zmz];congr 2;simp [znp,zon.2 h]
def Fy(L:List Int)(r:Int):List Int×Nat:=if L.count r=0 then ([],8) else (L.erase r,0)
def cu(L revs:List Int)(keep:Nat):List Int:=(revs.take (revs.length-keep)).filter fun r=>decide (L.count r=0)
end Go.V.L10
namespace Go.V.L4
structure Rd where
 at_:Nat
 bad:Nat
 err:Int
def Rd.fail(R:Rd)(a:Nat)(e:Int):Rd:=if R.err=0 then ⟨R.at_,a,e⟩ else R
def Re(bs:List Nat):Nat->Nat->Nat->Rd->Nat×Rd
 | 0,_,acc,R=>(acc,R)
 | f+1,i,acc,R=>match bs[R.at_]? with
  | none=>(0,R.fail bs.length 17)
  | some b=>if i=9/\b≠1\/0<i/\b=0 then (0,R.fail R.at_ 5) else
   if b<128 then (acc+b%128*128^i,⟨R.at_+1,R.bad,R.err⟩) else Re bs f (i+1) (acc+b%128*128^i) ⟨R.at_+1,R.bad,R.err⟩
def G1(bs:List Nat)(R:Rd):Nat×Rd:=Re bs 10 0 0 R
def ct(bs:List Nat)(lim:Nat)(e:Int)(R:Rd):Nat×Rd:=if lim<(G1 bs R).1 then ((G1 bs R).1,(G1 bs R).2.fail R.at_ e) else G1 bs R
def ln{α:Type}(f:Rd->α×Rd)(z:α)(R:Rd):α×Rd:=if R.err≠0 then (z,R) else if (f R).2.err≠0 then (z,⟨R.at_,(f R).2.bad,(f R).2.err⟩) else f R
def iz(bs:List Nat):Rd->Nat×Rd:=ln (G1 bs) 0
def zcc(bs:List Nat)(lim:Nat)(R:Rd):Int×Rd:=(IntKind.i64.wrap ((ct bs lim 3 R).1:Nat),(ct bs lim 3 R).2)
def j9(bs:List Nat)(lim:Nat):Rd->Int×Rd:=ln (zcc bs lim) 0
def bw(bs:List Nat):Rd->Bool×Rd:=ln (fun R=>(decide ((ct bs 1 5 R).1=1),(ct bs 1 5 R).2)) false
def E5(R:Rd)(a:Nat)(e:Int):(R.fail a e).at_=R.at_:=by unfold Rd.fail;split<;>rfl
def Tq{bs:List Nat}:∀ (f i acc:Nat) (R:Rd),R.at_<=bs.length->(Re bs f i acc R).2.at_<=bs.length/\R.at_<=(Re bs f i acc R).2.at_
 | 0,_,_,R,h=>⟨h,ns _⟩
 | f+1,i,acc,R,h=>by
  unfold Re
  cases hb:bs[R.at_]? with
  | none=>dsimp only;rw[E5];exact⟨h,Nat.le_refl _⟩
  | some b=>
   have hlt:=get_lt hb;dsimp only;split
   ·dsimp only;rw[E5];exact⟨h,Nat.le_refl _⟩
   ·split
    ·exact⟨hlt,zl1 _⟩
    ·have:=Tq f (i+1) (acc+b%128*128^i) ⟨R.at_+1,R.bad,R.err⟩ hlt;exact⟨this.1,mw (zl1 _) this.2⟩
def Lc(i:Nat):128^i=2^(7*i):=by rw[Nat.pow_mul]
def O0{acc b:Nat}(h:acc<128^i):acc+b%128*128^i<128^(i+1):=by
 rw[Nat.pow_succ];have h1:b%128<=127:=T;have h2:b%128*128^i<=127*128^i:=zmf _ h1;omega
end Go.V.L4
namespace Go.V
section
variable             {a:Act}      
def H6{b:Nat}(hb:u.heap[b]?=some (.cells cs.toArray t))(off j:Nat):u.cell? ((⟨b,off,none⟩:Addr).add j)=cs[off+j]?:=by
 rw[w9,kf hb];simp
def Hu{cs news:List Value}{off k j:Nat}(hn:news=(cs.drop off).take k)(hj:news[j]?=some v):cs[off+j]?=some v:=by
 subst hn;rw[zn3] at hj;split at hj
 ·rwa [zlo] at hj
 ·cases hj
def An{i:TypeInfo}{b c:Nat}{ty0:TypeId}{ad:Addr}{m' c':Nat}{news:List Value}(ht:P.underlying t=some (.slice e))(hi:P.info? e=some i)(hb:u.heap[b]?=some (.cells cur.toArray ty0))(hl:news.length=k*i.size)(hk:Nat.min m' m=k)(hcl:off+news.length<=cur.length)
  (h1:∀ v∈news,v.oneCell'=true) (hy:∀ j v,news[j]?=some v->u.cell? (ad.add j)=some v):
  (Builtin.copy_ #[t,ti] ty #[.slice (some ⟨b,off,none⟩) m c,.slice (some ad) m' c']).run P u=.ok (goInt k) (u.setRow b (cur.take off++(news++cur.drop (off+news.length))).toArray):=by
 have hf:=run_firstCells_some (P:=P) u i.size k ad m' c' news hl hy;have hst:=vp (P:=P) b ty0 off news 0 cur.toArray u hb (by simpa using hcl) h1;simp only[znl,mj] at hst;simp [Builtin.copy_,run_underlying ht,Builtin.lenOf,sizeOf,typeInfo,hi,hk,hf,hst]
def Ek(L:Tabs P){q b off m c m':Nat}{x y:Operand}{t e ti t':TypeId}{s by_:Nat}{cur all news cur':List Value}(k:Nat)(hn:Nat.blt d n=true)(hg:gK ops κ ⟨some d,.call ⟨.builtin .copy,#[x,y],#[t,ti]⟩,ty,pos,aft,g⟩=some true)
  (hx:evK κ x=some (.slice (some ⟨b,off,none⟩) m c)) (hq:κ q=some (.own (xk b cur t'))) (hy:Apd F B O κ y m' all) (ht:L.sl t=some e) (he:elI P e=some (s,by_)) (hm:0<m') (hk:Nat.min m' m=k) (hal:k*s<=all.length) (hnews:all.take (k*s)=news) (hcl:off+k*s<=cur.length) (h1:news.all vj=true)
  (hr:cur.take off++(news++cur.drop (off+k*s))=cur'):
  wh P F B n ops O κ ⟨some d,.call ⟨.builtin .copy,#[x,y],#[t,ti]⟩,ty,pos,aft,g⟩ q (.own (xk b cur' t')) d (.is (.int .i64 k)):=by
 rintro κ' a u hlk hks ⟨H,fp,hh⟩;unfold After;rw[na (xf hh hlk hg)];have en:=hh.env hlk;have hk':κ' q=some (.own (xk b cur t')):=hks.trans hq;have hxe:=en.is_ x _ (by simp [Op.operands,Call.operands]) hx;obtain⟨⟨hb,hC⟩,hM⟩:=hh.slot q _ hk';obtain⟨i,z,hi,hz,hs1,hs2,hs3,hs4⟩:=w8 he;subst hs1;have hnl:news.length=k*i.size:=by rw[<-hnews,mi,zmq hal]
 rcases hy _ a u H fp (by simp [Op.operands,Call.operands]) en with ⟨h0,_⟩ | ⟨ad,c',hye,hcy⟩
 ·omega
 have hrun0:=An (P:=P) (ty:=ty) (ti:=ti) (c:=c) (c':=c') (Tabs.sl_spec ht) hi hb hnl hk (by rw[hnl];exact hcl) (fun v hv=>g7 (zlj.1 h1 v hv)) (ad:=ad) (fun j v hj=>hcy j v (by
  rw[<-hnews,zn3] at hj;split at hj
  ·exact hj
  ·cases hj))
 rw[hnl,hr] at hrun0
 have hrun:(execOp a.eval ⟨some d,.call ⟨.builtin .copy,#[x,y],#[t,ti]⟩,ty,pos,aft,g⟩).run P u=.ok (.value (goInt k)) (u.setRow b cur'.toArray):=by
  simp only[execOp,resolve,invoke,builtin,nu,me,ma,zlv,mp,zlm,hxe,hye,hrun0]
 rw[hrun];simp only[Upon];have hbm:=hM b ((hC b).2 rfl)
 have h2:=hh.usePut (d:=q) (a':=a) (r':=xk b cur' t') (C:=fun k=>k=b) hk' (ww hh.sub hb ((hC b).2 rfl) hbm.2.1 _) rfl rfl (fun _ _=>rfl) ⟨setRow_heap u b cur.toArray cur'.toArray t' (0,0) hb,fun _=>Iff.rfl⟩ (fun k hk=>by
  subst hk;exact⟨.inl ((hC k).2 rfl),by rw[setRow_size];exact hbm.1,hbm.2.1⟩)
 rw[jo] at h2;exact⟨H,_,h2.put (k:=.is (.int .i64 k)) (zn hn) trivial Z⟩
def Td(L:Tabs P){b c off2 m' c':Nat}(k:Nat)(hn:Nat.blt d n=true)(hg:gK ops κ ⟨some d,.call ⟨.builtin .copy,#[x,y],#[t,ti]⟩,ty,pos,aft,g⟩=some true)
  (hx:evK κ x=some (.slice (some ⟨b,off,none⟩) m c)) (hq:κ q=some (.own (xk b cur t'))) (hy:evK κ y=some (.slice (some ⟨b,off2,none⟩) m' c')) (ht:L.sl t=some e) (he:elI P e=some (s,by_)) (hk:Nat.min m' m=k) (hnews:(cur.drop off2).take (k*s)=news) (hnl:news.length=k*s) (hcl:off+k*s<=cur.length) (h1:news.all vj=true)
  (hr:cur.take off++(news++cur.drop (off+k*s))=cur'):
  wh P F B n ops O κ ⟨some d,.call ⟨.builtin .copy,#[x,y],#[t,ti]⟩,ty,pos,aft,g⟩ q (.own (xk b cur' t')) d (.is (.int .i64 k)):=by
 rintro κ' a u hlk hks ⟨H,fp,hh⟩;unfold After;rw[na (xf hh hlk hg)];have en:=hh.env hlk;have hk':κ' q=some (.own (xk b cur t')):=hks.trans hq;have hxe:=en.is_ x _ (by simp [Op.operands,Call.operands]) hx;have hye:=en.is_ y _ (by simp [Op.operands,Call.operands]) hy;obtain⟨⟨hb,hC⟩,hM⟩:=hh.slot q _ hk';obtain⟨i,z,hi,hz,hs1,hs2,hs3,hs4⟩:=w8 he;subst hs1;have hrun0:=An (P:=P) (ty:=ty) (ti:=ti) (c:=c) (c':=c') (Tabs.sl_spec ht) hi hb hnl hk (by rw[hnl];exact hcl) (fun v hv=>g7 (zlj.1 h1 v hv)) (ad:=⟨b,off2,none⟩) (fun j v hj=>(H6 hb off2 j).trans (Hu hnews.symm hj));rw[hnl,hr] at hrun0
 have hrun:(execOp a.eval ⟨some d,.call ⟨.builtin .copy,#[x,y],#[t,ti]⟩,ty,pos,aft,g⟩).run P u=.ok (.value (goInt k)) (u.setRow b cur'.toArray):=by
  simp only[execOp,resolve,invoke,builtin,nu,me,ma,zlv,mp,zlm,hxe,hye,hrun0]
 rw[hrun];simp only[Upon];have hbm:=hM b ((hC b).2 rfl)
 have h2:=hh.usePut (d:=q) (a':=a) (r':=xk b cur' t') (C:=fun k=>k=b) hk' (ww hh.sub hb ((hC b).2 rfl) hbm.2.1 _) rfl rfl (fun _ _=>rfl) ⟨setRow_heap u b cur.toArray cur'.toArray t' (0,0) hb,fun _=>Iff.rfl⟩ (fun k hk=>by
  subst hk;exact⟨.inl ((hC k).2 rfl),by rw[setRow_size];exact hbm.1,hbm.2.1⟩)
 rw[jo] at h2;exact⟨H,_,h2.put (k:=.is (.int .i64 k)) (zn hn) trivial Z⟩
def Qc(L:Tabs P){q b nn cap k:Nat}{x y:Operand}{t ti e t':TypeId}{s by_:Nat}{kn:IntKind}{cur xs zs:List Value}{z:Value}(hn:Nat.blt d n=true)(hg:gK ops κ ⟨some d,.call ⟨.builtin .append,#[x,y],#[t,ti]⟩,ty,pos,aft,g⟩=some true)
  (hx:evK κ x=some (.slice (some ⟨b,0,none⟩) nn cap)) (hq:κ q=some (.own (xk b cur t'))) (hy:evK κ y=some (.int .i64 k)) (ht:L.sl t=some e) (hti:P.underlying ti=some (.int kn)) (he:elI P e=some (s,by_)) (hz:L.zr e=some z) (h0:0<k) (hg2:cap<nn+k) (hxs:cur.take (nn*s)=xs) (hxl:nn*s<=cur.length) (hzs:(Builtin.zeroCells z.cells k).toList=zs)
  (hb:(nn+k)*by_<=140737488355328) (h63:nn+k<=4611686018427387904):
  StepOKR P F B n ops O κ ⟨some d,.call ⟨.builtin .append,#[x,y],#[t,ti]⟩,ty,pos,aft,g⟩ q d (.own (SlR e s (nn+k) (xs++zs))):=by
 rintro κ' a u hlk hks ⟨H,fp,hh⟩;unfold After;rw[na (xf hh hlk hg)];have en:=hh.env hlk;have hk':κ' q=some (.own (xk b cur t')):=hks.trans hq;have hxe:=en.is_ x _ (by simp [Op.operands,Call.operands]) hx;have hye:=en.is_ y _ (by simp [Op.operands,Call.operands]) hy;obtain⟨⟨hbb,hC⟩,hM⟩:=hh.slot q _ hk';obtain⟨i,z',hi,hz',hs1,hs2,hs3,hs4⟩:=w8 he
 have hzz:i.zero=some z:=by
  have:=Tabs.zr_spec hz;unfold zrI at this;rw[hi] at this;exact this
 rw[hz'] at hzz;obtain rfl:=Option.some.inj hzz;subst hs1;subst hs2
 have hold:(Builtin.firstCells i.size nn (.slice (some ⟨b,0,none⟩) nn cap)).run P u.drew=.ok xs.toArray u.drew:=run_firstCells_some (P:=P) u.drew i.size nn ⟨b,0,none⟩ nn cap xs (by rw[<-hxs,mi,zmq hxl]) fun j v hj=>by
  have hb2:u.drew.heap[b]?=some (.cells cur.toArray t'):=hbb;rw[H6 hb2 0 j,zlb];rw[<-hxs,zn3] at hj;split at hj
  ·exact hj
  ·cases hj
 have hkb:k*i.bytes<=(nn+k)*i.bytes:=zmf _ T;have hns:=growslice_fits hg2 hb;have hr:=Lib.run_append_grow_zeros (P:=P) u t ti ty e i z' .i64 kn (Tabs.sl_spec ht) hti hi hz' (some ⟨b,0,none⟩) nn cap xs hold k h0 hs4 hg2 T T hns
 have hrun:(execOp a.eval ⟨some d,.call ⟨.builtin .append,#[x,y],#[t,ti]⟩,ty,pos,aft,g⟩).run P u=.ok (.value (.slice (some ⟨u.heap.size,0,none⟩) (nn+k) (grownCap u (nn+k) cap e))) (u.drew.alloc (.cells (xs.toArray++Builtin.zeroCells z'.cells k++Builtin.zeroCells z'.cells (grownCap u (nn+k) cap e-(nn+k))) e)):=by
  simp only[execOp,resolve,invoke,builtin,nu,me,ma,zlv,mp,zlm,hxe,hye,hr]
 rw[hrun];simp only[Upon];have hge:=grownCap_ge u (nn+k) cap e;have hmx:nn+k<=maxLen:=by simp only[maxLen];omega
 have hxl2:xs.length=nn*i.size:=by rw[<-hxs,mi,zmq hxl]
 have hzl:zs.length=k*i.size:=by rw[<-hzs,zlw,size_zeroCells,hs3]
 have hg3:=hh.grow (u':=u.drew.alloc (.cells (xs.toArray++Builtin.zeroCells z'.cells k++Builtin.zeroCells z'.cells (grownCap u (nn+k) cap e-(nn+k))) e)) (H':=H) ⟨⟨rfl,rfl,rfl,by simp,fun k hk _=>jq u.drew _ hk,zl1 _⟩,fun k v hv=>by
  have:=hh.sub.size hv;show(u.drew.alloc _).heap[k]?=some v;rw[jq u.drew _ this];exact hh.sub k v hv,mo _,fun _ _ _=>rfl⟩
 refine⟨H,_,hg3.putR (C:=fun k=>k=u.heap.size) (by simp [Act.put]) Z (fun t ht=>xn ht) ⟨by rw[nr,hxl2,hzl,zl6],.inr ⟨u.heap.size,_,(Builtin.zeroCells z'.cells (grownCap u (nn+k) cap e-(nn+k))).toList,xx (by rw[hh.size];exact zn hn),?_,hge,grownCap_le_maxLen u (nn+k) cap e hmx,?_,fun _=>Iff.rfl⟩⟩ (fun k hk=>?_) fun t r' htd ht k hf hk=>?_⟩
 ·rw[show u.heap.size=u.drew.heap.size from rfl,heap_alloc_new];congr 2;apply Array.ext';simp [<-hzs]
 ·have hz2:(Builtin.zeroCells z'.cells (grownCap u (nn+k) cap e-(nn+k))).toList.length=(grownCap u (nn+k) cap e-(nn+k))*i.size:=(zlw).trans (by rw[size_zeroCells,hs3]);rw[nr,nr,hz2,hxl2,hzl,<-zl6,<-zl6];congr 1;omega
 ·subst hk;exact⟨by simp,k7 hh.sub (ns _),.inl hh.keep.size,fun y hy e=>by have:=xb (hh.boxes y hy).1;omega⟩
 ·have:=((hh.slot t _ ht).2 k hf).1;omega
def Lm(L:Tabs P){q w b off m f len cap:Nat}{y:Operand}{t e t':TypeId}{s:Nat}{cur cs:List Value}{te:TypeId}{fo:Operand}{tR:TypeId}(hn:Nat.blt d n=true)(hg:gK ops κ ⟨some d,.call { callee:=.value fo,args:=#[.tmp w,y],argTypes:=at_ },ty,pos,aft,g⟩=some true)
  (hfo:evK κ fo=some (.func (.func f) #[] #[])) (hext:∀ args u,(callFunc f args).run P u=((Extern.SlicesOverlaps.overlaps #[t,t] #[tR] args).run P u).andThen fun v w'=>.ok (.value v) w')
  (hx:κ w=some (.sat (SlB cs te len))) (hy:evK κ y=some (.slice (some ⟨b,off,none⟩) m cap)) (hq:κ q=some (.own (xk b cur t'))) (ht:L.sl t=some e) (hl:L.ld e=some (ag,s)) (hc:0<cur.length):
  StepOKR P F B n ops O κ ⟨some d,.call { callee:=.value fo,args:=#[.tmp w,y],argTypes:=at_ },ty,pos,aft,g⟩ q d (.is (.bool false)):=by
 rintro κ' a u hlk hks ⟨H,fp,hh⟩;unfold After;rw[na (xf hh hlk hg)];have en:=hh.env hlk;have hk':κ' q=some (.own (xk b cur t')):=hks.trans hq;have hfe:a.eval fo=.func (.func f) #[] #[]:=en.is_ fo _ (by simp [Op.operands,Call.operands]) hfo;have hye:=en.is_ y _ (by simp [Op.operands,Call.operands]) hy;obtain⟨b2,hxe,hb2⟩:=en.sat_ w _ (by simp [Op.operands,Call.operands]) hx;obtain⟨⟨hbb,hC⟩,hM⟩:=hh.slot q _ hk';have hbm:=hM b ((hC b).2 rfl);have hne:b2≠b:=fun e=>by subst e;rw[hbm.2.1] at hb2;cases hb2
 have hb2':=en.sub _ _ hb2;have hsz:∀ w,(Go.sizeOf e).run P w=.ok s w:=je (Tabs.ld_spec hl)
 have hr:=Lib.run_overlaps_apart (P:=P) u t tR e (Tabs.sl_spec ht) s hsz ⟨b2,0,none⟩ ⟨b,off,none⟩ len len m cap hne te t' cs.length cur.length
  (by simp [World.shape?,hp] at hb2' |-;simp [hb2']) (by simp [World.shape?,hbb]) T (by simp [World.frozen?,hp] at hb2' |-;simp [hb2']) (by simp [World.frozen?,hp] at hb2' |-;simp [hb2'])
 have hrun:(execOp a.eval ⟨some d,.call { callee:=.value fo,args:=#[.tmp w,y],argTypes:=at_ },ty,pos,aft,g⟩).run P u=.ok (.value (.bool false)) u:=by
  simp only[execOp,resolve,hfe,Deferred.ofValue,nu,me,ma,invoke];simp [hext,hxe,hye,hr]
 rw[hrun];simp only[Upon];exact⟨H,fp,hh.put (k:=.is (.bool false)) (zn hn) trivial Z⟩
def P3(L:Tabs P){k:IntKind}(hn:Nat.blt d n=true)(hg:gK ops κ ⟨some d,.slice tt x (some y) none none,ty,pos,aft,g⟩=some true)
  (hx:evK κ x=some (.slice none 0 0)) (ht:L.sl tt=some e) (hl:L.ld e=some (ag,s))  (hy:evK κ y=some (.int k p)) (hp:p=(0:Nat)):
  StepOK P F B n ops O κ ⟨some d,.slice tt x (some y) none none,ty,pos,aft,g⟩ d (.is (.slice none 0 0)):=
 ke rfl (zn hn) hg trivial fun a u H fp en=>⟨_,by
  have hu:=Tabs.sl_spec ht;have h1:=en.is_ x _ (by simp [Op.operands]) hx;have h2:=en.is_ y _ (by simp [Op.operands]) hy;subst hp
  have hrun:(Instr.sliceBounds true 0 0 (some (a.eval y)) none none).run P u=.ok (0,0,0) u:=by
   have h4:=fun c w=>ji (P:=P) 0 k 0 c (ns _) w;simp only[h2,Instr.sliceBounds,nu,h4,ma,me]
  simp only[execOp,h1,Instr.sliceAt,Instr.slice,nu,run_underlying hu,ma,zoi,zmr,hrun,je (Tabs.ld_spec hl)];rfl,rfl⟩
end
end Go.V
namespace Go.V.L4
def _root_.ZaB(t:Wr Y->A:=by intro h;refine z7 (zo L Z Z Z Z) Z ?_;exact h.1)(h:Y):A:=t ⟨h⟩
def _root_.ZbJ(t:Wr Y->A:=by intro h;refine z8 (zo L Z Z Z Z) Z ?_;exact h.1)(h:Y):A:=t ⟨h⟩
def _root_.Zet(t:Wr Y->A:=by intro h;refine z7 (qu Z Z Z) Z ?_;exact h.1)(h:Y):A:=t ⟨h⟩
def _root_.Zy(t:Wr Y->A:=by intro h;refine z7 (y6 Z Z Z Z M) Z ?_;exact h.1)(h:Y):A:=t ⟨h⟩
def _root_.ZeR(t:Wr Y->A:=by intro h;refine qz (qb L (q:=900) Z Z Z Z) ?_;exact h.1)(h:Y):A:=t ⟨h⟩
def _root_.Zd2(t:Wr Y->A:=by intro h;refine z8 (qu Z Z Z) Z ?_;exact h.1)(h:Y):A:=t ⟨h⟩
def _root_.ZdI(t:Wr Y->A:=by intro h;refine z7 (S5 Z Z Z Z (yy T T)) Z ?_;exact h.1)(h:Y):A:=t ⟨h⟩
def _root_.ZcN(t:Wr Y->A:=by intro h;refine qn (qb L (q:=900) Z Z Z Z) Z Z ?_;exact h.1)(h:Y):A:=t ⟨h⟩
def _root_.ZaC(t:Wr Y->A:=by intro h;refine z7 (Ta L Z Z Z Z) Z ?_;exact h.1)(h:Y):A:=t ⟨h⟩
def _root_.Zbo(t:Wr Y->A:=by intro h;refine zh (id:=14) ?_;exact h.1)(h:Y):A:=t ⟨h⟩
def _root_.ZV(t:Wr Y->A:=by intro h;refine zh (id:=11) ?_;exact h.1)(h:Y):A:=t ⟨h⟩
def _root_.ZW(t:Wr Y->A:=by intro h;refine zh (id:=12) ?_;exact h.1)(h:Y):A:=t ⟨h⟩
def _root_.ZX(t:Wr Y->A:=by intro h;refine zh (id:=13) ?_;exact h.1)(h:Y):A:=t ⟨h⟩
def _root_.Zap(t:Wr Y->A:=by intro h;refine zh (id:=16) ?_;exact h.1)(h:Y):A:=t ⟨h⟩
def _root_.Za0(t:Wr Y->A:=by intro h;refine zh (id:=15) ?_;exact h.1)(h:Y):A:=t ⟨h⟩
def _root_.Zdb(t:Wr Y->A:=by intro h;refine z8 (yi Z Z Z Z (ng T)) Z ?_;exact h.1)(h:Y):A:=t ⟨h⟩
def _root_.Zd3(t:Wr Y->A:=by intro h;refine qg (id:=5) [(200012,[900]),(200016,[900])] mixed J ?_;exact h.1)(h:Y):A:=t ⟨h⟩
def _root_.Zdc(t:Wr Y->A:=by intro h;refine z8 (Gx L Z Z Z Z Z) Z ?_;exact h.1)(h:Y):A:=t ⟨h⟩
def _root_.ZdJ(t:Wr Y->A:=by intro h;refine qg (id:=8) [(200029,[900]),(200033,[900])] mixed J ?_;exact h.1)(h:Y):A:=t ⟨h⟩
def _root_.Zdd(t:Wr Y->A:=by intro h;refine z8 (Ta L Z Z Z Z) Z ?_;exact h.1)(h:Y):A:=t ⟨h⟩
def _root_.ZdV(t:Wr Y->A:=by intro h;refine z7 (Tj Z Z Z Z M) Z ?_;exact h.1)(h:Y):A:=t ⟨h⟩
def _root_.Zeh(t:Wr Y->A:=by intro h;refine z7 (Nk Z Z Z Z T M) Z ?_;exact h.1)(h:Y):A:=t ⟨h⟩
def _root_.ZdW(t:Wr Y->A:=by intro h;refine z7 (zi9 Z Z Z Z M) Z ?_;exact h.1)(h:Y):A:=t ⟨h⟩
def _root_.Zei(t:Wr Y->A:=by intro h;refine z8 (yi Z Z Z Z (nf T)) Z ?_;exact h.1)(h:Y):A:=t ⟨h⟩
def _root_.Zeu(t:Wr Y->A:=by intro h;refine z7 (vk Z Z Z Z zky Z) Z ?_;exact h.1)(h:Y):A:=t ⟨h⟩
def _root_.Zdt(t:Wr Y->A:=by intro h;refine zfc Z ?_;exact h.1)(h:Y):A:=t ⟨h⟩
def _root_.ZY(t:Wr Y->A:=by exact fun h=>(Zet∘ZaB) h.1)(h:Y):A:=t ⟨h⟩
def _root_.ZbB(t:Wr Y->A:=by exact fun h=>(Zd2∘ZbJ) h.1)(h:Y):A:=t ⟨h⟩
def _root_.ZH(t:Wr Y->A:=by exact fun h=>(ZY∘ZeR) h.1)(h:Y):A:=t ⟨h⟩
def _root_.Za4(t:Wr Y->A:=by exact fun h=>(Zj∘ZbB) h.1)(h:Y):A:=t ⟨h⟩
def _root_.ZaJ(t:Wr Y->A:=by exact fun h=>(ZbU∘Zbk) h.1)(h:Y):A:=t ⟨h⟩
def _root_.Zau(t:Wr Y->A:=by exact fun h=>(Zat∘Za) h.1)(h:Y):A:=t ⟨h⟩
def _root_.ZaS(t:Wr Y->A:=by exact fun h=>(Zf∘Zaw) h.1)(h:Y):A:=t ⟨h⟩
def _root_.ZaX(t:Wr Y->A:=by exact fun h=>(Zb∘ZH) h.1)(h:Y):A:=t ⟨h⟩
def _root_.ZaY(t:Wr Y->A:=by exact fun h=>(Za4∘ZcN) h.1)(h:Y):A:=t ⟨h⟩
def _root_.Zbw(t:Wr Y->A:=by exact fun h=>(Zbo∘Za) h.1)(h:Y):A:=t ⟨h⟩
def _root_.ZbC(t:Wr Y->A:=by exact fun h=>(Zbd∘ZaJ) h.1)(h:Y):A:=t ⟨h⟩
abbrev ui:TypeId:=120
abbrev xz(b:Nat):Value:=.pointer (some ⟨b,0,none⟩)
abbrev Xe:TypeId:=5
abbrev BsV(bs:List Nat)(fu:Bool):Value->Heap->Prop:=SlV Xe 1 (bs.map fun b:Nat=>Value.int .u8 (b:Int)) bs.length fu
abbrev rdC(sv:Value)(R:Rd):List Value:=[sv,.int .i64 R.at_,.int .i64 R.bad,.int .i64 R.err]
abbrev GRd(rb:Nat)(sv:Value)(R:Rd):GR:=yz rb (rdC sv R) ui
def zjp{bs:List Nat}{b:Nat}(h:bs[i]?=some b):((bs.map fun b:Nat=>Value.int .u8 (b:Int)).drop (i*1)).take 1=[.int .u8 (b:Int)]:=by
 rw[zmh,zl9 (by rw[mt];exact get_lt h),zm7,zl4,List.getElem_map];congr 2;rw[lj h]
def _root_.Go.V.StepOKR.seeV(h:StepOKR P F B n ops O κ o q d (.is v))(hv:SlV e s xs m fu v B):StepOKR P F B n ops O κ o q d (.sat (SlV e s xs m fu)):=fun κ' a u hl hq hh=>
 After.mono (fun a' u' hh'=>by
  have h2:=hh'.seen (t:=d) (SlV e s xs m fu) (xj _ _ _) nw hv
  rwa [jo] at h2) (h κ' a u hl hq hh)
attribute [local irreducible] V N X VO Par StepOK Has Ret RetL RetO RetT ki RetX RetY Src
def ax{rb:Nat}{R:Rd}{a:Nat}{e:Int}(hB:zpg B w)(hr:(GRd rb sv R).P B w C)(hC:ZCB C w B):
  ki zph 116 [xz rb,.int .i64 a,.int .i64 e] w B C (GRd rb sv (R.fail a e)):=by
 unfold ki;refine yr 900 (GRd rb sv R) Tryz.func116 Z Tryz.ntmps116 (np Z) hB hr hC ?_;rw[xa];obtain⟨at_,bad,err⟩:=R;by_cases h0:err=0
 ·subst h0;refine(ZB∘Za∘ZH) ?_;refine z7 (yi Z Z Z Z Z) Z ((ZD∘Z3∘ZaI∘ZY) ?_);refine xh (ye L (q:=900) (cs':=[sv,.int .i64 at_,.int .i64 a,.int .i64 0]) Z Z Z Z Z) (ZY (h:=?_));refine xh (ye L (q:=900) (cs':=[sv,.int .i64 at_,.int .i64 a,.int .i64 e]) Z Z Z Z Z) (ZN (h:=?_));exact xo L 900 (r:=yz rb _ ui) Z (fun _ _ h=>h) nq Z Z
 ·have hf:(⟨at_,bad,err⟩:Rd).fail a e=⟨at_,bad,err⟩:=nc h0;refine(ZB∘Za∘ZH∘Zq∘Zad) ?_;exact xo L 900 (r:=yz rb _ ui) Z (fun _ _ h=>h) nq Z (by rw[hf])
def xy{rb:Nat}{R:Rd}{f:Bool}(hf:decide (R.err≠0)=f)(hB:zpg B w)(hr:(GRd rb sv R).P B w C)(hC:ZCB C w B):
  RetX zph 65 [xz rb] w B C (GRd rb sv R) (.bool f):=by
 subst hf;unfold RetX;refine yr 900 (GRd rb sv R) Tryz.func65 Z Tryz.ntmps65 (np Z) hB hr hC ?_;rw[xa];obtain⟨at_,bad,err⟩:=R;refine(Z0∘Za∘Zeu∘ZaX) ?_;refine z7 (yw Z Z Z Z Z) Z ((Zl∘Zc) ?_);exact xv L 900 (r:=yz rb _ ui) (rs:=[.tmp 2]) Z (fun _ _ h=>h) nq Z Z (fun _=>rfl)
def Cw{rb:Nat}{bs:List Nat}{R:Rd}(hb:∀ b∈bs,b<=255)(hl:bs.length<=1099511627776)(hat:R.at_<=bs.length)(hB:zpg B w)(hs:BsV bs fu sv B)(hr:(GRd rb sv R).P B w C)(hC:ZCB C w B):
  RetX zph 115 [xz rb] w B C (GRd rb sv (G1 bs R).2) (.int .u64 ((G1 bs R).1:Nat)):=by
 obtain⟨p,c,rfl⟩:=ky hs;unfold RetX;refine yr 900 (GRd rb _ R) Tryz.func115 Z Tryz.ntmps115 (np Z) hB hr hC ?_;rw[xa];obtain⟨z,hz⟩:∃ z,G1 bs R=z:=⟨_,rfl⟩
 rw[hz];refine(Z0∘Zi∘Zo∘ZcK) ?_;refine xm (fun x:Nat×Nat×Rd=>[(0,.is (xz rb)),(3,.is (.int .u64 x.2.1)),(6,.is (.int .i64 x.1)),(900,.own (xk rb (rdC (.slice p bs.length c) x.2.2) ui))]) (fun x=>x.1<=10/\x.2.1<128^x.1/\x.2.2.at_<=bs.length/\Re bs (10-x.1) x.1 x.2.1 x.2.2=z) (fun x=>10-x.1) (0,0,R) ⟨mf _,by show(0:Nat)<128^0;decide,hat,hz⟩ ⟨Z,Z,Z,Z,nm⟩ ?_;rintro⟨i,acc,⟨at_,bad,err⟩⟩ ⟨hi,hacc,ha,hn⟩;dsimp only[rdC] at hi hacc ha hn |-;by_cases hlt:i<10
 ·obtain⟨f,hf⟩:∃ f,10-i=f+1:=⟨9-i,by omega⟩
  rw[hf] at hn;unfold Re at hn
  cases hg:bs[at_]? with
  | none=>
   have hal:at_=bs.length:=by have:=List.getElem?_eq_none_iff.1 hg;omega
   subst hal;dsimp only at hn;rw[hg] at hn;subst hn;refine(Zbn∘Zz∘Z9∘Zi∘Zd3∘ZaY∘ZaY∘Zdd∘Zei∘Zb4∘ZaS∘ZaX∘ZaC) ?_;refine zy (yq L 900 (GRd rb (.slice p bs.length c) ((⟨bs.length,bad,err⟩:Rd).fail bs.length 17)) (r:=GRd rb (.slice p bs.length c) ⟨bs.length,bad,err⟩) Z Z Z Z Z (fun u H C2 hH _ hr2 hC2=>ax hH hr2 hC2)) ((Zg∘ZK∘Zc) ?_);exact xv L 900 (r:=yz rb _ ui) (rs:=[.tmp 2]) Z (fun _ _ h=>h) nq Z Z (fun _=>rfl)
  | some b=>
   have hb255:b<=255:=hb b (zln hg);have hcr:=zjp hg;have hlt2:=get_lt hg;dsimp only at hn;rw[hg] at hn;dsimp only at hn;by_cases hbad:i=9/\b≠1\/0<i/\b=0
   ·rw[na hbad] at hn;subst hn;by_cases h9:i=9/\b≠1
    ·obtain⟨h9,h91⟩:=h9;refine(Zbn∘Zz∘Z9∘Zi∘Zd3∘ZaY∘ZaY∘Zdd∘Zdb∘Zaz∘Zal∘ZdJ∘Za4) ?_;refine qn (StepOKR.seeV (qb L (q:=900) Z Z Z Z) hs) Z Z ((ZaY∘Zcv∘Zdc∘ZbC∘Zf∘Zau∘ZG∘Zb∘Zds∘Zl∘ZaF∘Zbb∘Zbb∘ZbS∘ZA∘ZaX) ?_);refine zy (yq L 900 (GRd rb (.slice p bs.length c) ((⟨at_,bad,err⟩:Rd).fail at_ 5)) (r:=GRd rb (.slice p bs.length c) ⟨at_,bad,err⟩) Z Z Z Z Z (fun u H C2 hH _ hr2 hC2=>ax hH hr2 hC2)) ((Zg∘ZV∘Zc) ?_);exact xv L 900 (r:=yz rb _ ui) (rs:=[.tmp 2]) Z (fun _ _ h=>h) nq Z Z (fun _=>rfl)
    ·have h10:0<i/\b=0:=T;obtain⟨h10,h0b⟩:=h10;by_cases h9:i=9
     ·exfalso;omega
     ·refine(Zbn∘Zz∘Z9∘Zi∘Zd3∘ZaY∘ZaY∘Zdd∘Zdb∘Zaz∘Zal∘ZdJ∘Za4) ?_;refine qn (StepOKR.seeV (qb L (q:=900) Z Z Z Z) hs) Z Z ((ZaY∘Zcv∘Zdc∘ZbC∘Zf∘Zau∘Zq∘ZaF∘Zl∘Zb∘ZO∘Zb∘ZG∘Zl∘ZbS∘ZA∘ZaX) ?_);refine zy (yq L 900 (GRd rb (.slice p bs.length c) ((⟨at_,bad,err⟩:Rd).fail at_ 5)) (r:=GRd rb (.slice p bs.length c) ⟨at_,bad,err⟩) Z Z Z Z Z (fun u H C2 hH _ hr2 hC2=>ax hH hr2 hC2)) ((Zg∘ZV∘Zc) ?_);exact xv L 900 (r:=yz rb _ ui) (rs:=[.tmp 2]) Z (fun _ _ h=>h) nq Z Z (fun _=>rfl)
   ·rw[nc hbad] at hn;have hw1:IntKind.i64.wrap ((at_:Int)+1)=((at_+1:Nat):Int):=yy T T;have hand:=zfb hb255;have hcv:IntKind.u64.wrap ((b%128:Nat):Int)=((b%128:Nat):Int):=wrap_u64 T T;have hpw:128^i<=128^9:=zoo E T
    have hnx:acc+b%128*128^i<2^64:=by
     by_cases h9:i=9
     ·have hb1:b=1:=T;subst h9;subst hb1;have:(128:Nat)^9=9223372036854775808:=E;omega
     ·have h1:=O0 (b:=b) hacc;have h2:128^(i+1)<=128^9:=zoo E T;have:(128:Nat)^9=9223372036854775808:=E;omega
    have hsh:IntKind.u64.wrap (((b%128:Nat):Int)*2^min (7*(i:Int)).toNat IntKind.u64.bits)=((b%128*128^i:Nat):Int):=by
     have e1:min (7*(i:Int)).toNat IntKind.u64.bits=7*i:=by
      show min (7*(i:Int)).toNat 64=7*i;omega
     rw[e1,show((b%128:Nat):Int)*2^(7*i)=((b%128*128^i:Nat):Int) by rw[Lc];push_cast;rfl];exact wrap_u64 T T
    have hor:bits .or .u64 (acc:Int) ((b%128*128^i:Nat):Int)=((acc+b%128*128^i:Nat):Int):=by
     rw[bits_or_u64_nat _ _ T T];congr 1;have:=zb5 (a:=acc) (b:=b%128) (i:=7*i) (by rw[<-Lc];exact hacc)
     rwa [<-Lc] at this
    have hwk:IntKind.i64.wrap ((i:Int)+1)=((i+1:Nat):Int):=yy T T;have hnl:=O0 (b:=b) hacc;generalize b%128*128^i=sh at hn hsh hor hnx hnl;by_cases hlast:b<128
    ·rw[na hlast] at hn;subst hn;by_cases h9:i=9
     ·have hb1:b=1:=T;subst hb1;refine(Zbn∘Zz∘Z9∘Zi∘Zd3∘ZaY∘ZaY∘Zdd∘Zdb∘Zaz∘Zal∘ZdJ∘Za4) ?_;refine qn (StepOKR.seeV (qb L (q:=900) Z Z Z Z) hs) Z Z ((ZaY∘Zcv∘Zdc∘ZbC∘Zf∘Zau∘ZG∘Zb∘Za5∘Zl∘Zb∘ZO∘Zb∘Zq∘Zl∘ZbV∘ZW∘Za∘ZH∘Zy∘ZY) ?_);refine xh (ye L (q:=900) (cs':=[.slice p bs.length c,.int .i64 (at_+1:Nat),.int .i64 bad,.int .i64 err]) Z Z Z Z Z) ((Zg∘ZX∘Zb∘ZdV) ?_);refine z7 (kg Z Z Z ef.1 ef.2 (wrap_u64 T T)) Z ((Za∘ZdI∘Zeh∘ZdW∘Zd∘Zbw∘Zag∘Zef∘Zdt∘ZdD∘ZcZ∘Zbk∘Zap∘Za∘Zc) ?_);exact xv L 900 (r:=yz rb _ ui) (rs:=[.tmp 2]) Z (fun _ _ h=>h) nq Z Z (fun _=>rfl)
     ·by_cases h0:0<i
      ·have hb0:b≠0:=T;refine(Zbn∘Zz∘Z9∘Zi∘Zd3∘ZaY∘ZaY∘Zdd∘Zdb∘Zaz∘Zal∘ZdJ∘Za4) ?_;refine qn (StepOKR.seeV (qb L (q:=900) Z Z Z Z) hs) Z Z ((ZaY∘Zcv∘Zdc∘ZbC∘Zf∘Zau∘Zq∘ZaF∘Zl∘Zb∘ZO∘Zb∘Zq∘Zl∘ZbV∘ZW∘Za∘ZH∘Zy∘ZY) ?_);refine xh (ye L (q:=900) (cs':=[.slice p bs.length c,.int .i64 (at_+1:Nat),.int .i64 bad,.int .i64 err]) Z Z Z Z Z) ((Zg∘ZX∘Zb∘ZdV) ?_);refine z7 (kg Z Z Z ef.1 ef.2 (wrap_u64 T T)) Z ((Za∘ZdI∘Zeh∘ZdW∘Zd∘Zbw∘Zag∘Zef∘Zdt∘ZdD∘ZcZ∘Zbk∘Zap∘Za∘Zc) ?_);exact xv L 900 (r:=yz rb _ ui) (rs:=[.tmp 2]) Z (fun _ _ h=>h) nq Z Z (fun _=>rfl)
      ·refine(Zbn∘Zz∘Z9∘Zi∘Zd3∘ZaY∘ZaY∘Zdd∘Zdb∘Zaz∘Zal∘ZdJ∘Za4) ?_;refine qn (StepOKR.seeV (qb L (q:=900) Z Z Z Z) hs) Z Z ((ZaY∘Zcv∘Zdc∘ZbC∘Zf∘Zau∘Zq∘ZaF∘Zl∘Zb∘ZJ∘ZaF∘Zl∘ZbV∘ZW∘Za∘ZH∘Zy∘ZY) ?_);refine xh (ye L (q:=900) (cs':=[.slice p bs.length c,.int .i64 (at_+1:Nat),.int .i64 bad,.int .i64 err]) Z Z Z Z Z) ((Zg∘ZX∘Zb∘ZdV) ?_);refine z7 (kg Z Z Z ef.1 ef.2 (wrap_u64 T T)) Z ((Za∘ZdI∘Zeh∘ZdW∘Zd∘Zbw∘Zag∘Zef∘Zdt∘ZdD∘ZcZ∘Zbk∘Zap∘Za∘Zc) ?_);exact xv L 900 (r:=yz rb _ ui) (rs:=[.tmp 2]) Z (fun _ _ h=>h) nq Z Z (fun _=>rfl)
    ·rw[nc hlast] at hn;have h9:i≠9:=T;have hf9:f=10-(i+1):=T;rw[hf9] at hn;by_cases h0:0<i
     ·have hb0:b≠0:=T;refine(Zbn∘Zz∘Z9∘Zi∘Zd3∘ZaY∘ZaY∘Zdd∘Zdb∘Zaz∘Zal∘ZdJ∘Za4) ?_;refine qn (StepOKR.seeV (qb L (q:=900) Z Z Z Z) hs) Z Z ((ZaY∘Zcv∘Zdc∘ZbC∘Zf∘Zau∘Zq∘ZaF∘Zl∘Zb∘ZO∘Zb∘Zq∘Zl∘ZbV∘ZW∘Za∘ZH∘Zy∘ZY) ?_);refine xh (ye L (q:=900) (cs':=[.slice p bs.length c,.int .i64 (at_+1:Nat),.int .i64 bad,.int .i64 err]) Z Z Z Z Z) ((Zg∘ZX∘Zb∘ZdV) ?_);refine z7 (kg Z Z Z ef.1 ef.2 (wrap_u64 T T)) Z ((Za∘ZdI∘Zeh∘ZdW∘Zd∘Zbw∘Zac∘Zad∘ZP∘Za0∘Zy∘Zck) ?_);exact yn (x:=(i,acc,⟨at_,bad,err⟩)) (i+1,acc+sh,⟨at_+1,bad,err⟩) ⟨hlt,hnl,hlt2,hn⟩ G ⟨Z,Z,Z,Z,nm⟩
     ·refine(Zbn∘Zz∘Z9∘Zi∘Zd3∘ZaY∘ZaY∘Zdd∘Zdb∘Zaz∘Zal∘ZdJ∘Za4) ?_;refine qn (StepOKR.seeV (qb L (q:=900) Z Z Z Z) hs) Z Z ((ZaY∘Zcv∘Zdc∘ZbC∘Zf∘Zau∘Zq∘ZaF∘Zl∘Zb∘ZJ∘ZaF∘Zl∘ZbV∘ZW∘Za∘ZH∘Zy∘ZY) ?_);refine xh (ye L (q:=900) (cs':=[.slice p bs.length c,.int .i64 (at_+1:Nat),.int .i64 bad,.int .i64 err]) Z Z Z Z Z) ((Zg∘ZX∘Zb∘ZdV) ?_);refine z7 (kg Z Z Z ef.1 ef.2 (wrap_u64 T T)) Z ((Za∘ZdI∘Zeh∘ZdW∘Zd∘Zbw∘Zac∘Zad∘ZP∘Za0∘Zy∘Zck) ?_);exact yn (x:=(i,acc,⟨at_,bad,err⟩)) (i+1,acc+sh,⟨at_+1,bad,err⟩) ⟨hlt,hnl,hlt2,hn⟩ G ⟨Z,Z,Z,Z,nm⟩
 ·have hf:10-i=0:=T;rw[hf] at hn;unfold Re at hn;subst hn;refine(Zbn∘ZaO∘Zap∘Za∘Zc) ?_;exact xv L 900 (r:=yz rb _ ui) (rs:=[.tmp 2]) Z (fun _ _ h=>h) nq Z Z (fun _=>rfl)
end Go.V.L4
end
