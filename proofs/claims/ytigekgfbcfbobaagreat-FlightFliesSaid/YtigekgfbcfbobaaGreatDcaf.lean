/- Own lemmas, used by the last text. Conditions: those that each theorem states. -/
import Derived.Test.YtigekgfbcfbobaaGreatDcae
import Derived.Test.YtigekgfbcfbobaaGreatProg
set_option maxRecDepth 200000
set_option maxHeartbeats 8000000
namespace Go.Proofs.Tryz
open Go.Psl
def p3:PC:=(⟨_,by conv=>lhs;reduce⟩:Rd (G f3 [])).1
theorem c3:f3.body.bind (AK f3.ntmps)=some p3:=by kernel_rfl
def p4:PC:=(⟨_,by conv=>lhs;reduce⟩:Rd (G f4 [])).1
theorem c4:f4.body.bind (AK f4.ntmps)=some p4:=by kernel_rfl
def p5l0:PC:=(⟨_,by conv=>lhs;reduce⟩:Rd (K f5 0 [])).1
def p5l1:PC:=(⟨_,by conv=>lhs;reduce⟩:Rd (K f5 1 [])).1
def p5:PC:=(⟨_,by conv=>lhs;reduce⟩:Rd (fun a b=>G f5 [a,b])).1 p5l0 p5l1
theorem c5:f5.body.bind (AK f5.ntmps)=some p5:=by kernel_rfl
def ABS:PC:=(⟨_,by conv=>lhs;reduce⟩:Rd (K f6 0 [])).1
def p6:PC:=(⟨_,by conv=>lhs;reduce⟩:Rd (fun a=>G f6 [a])).1 ABS
theorem c6:f6.body.bind (AK f6.ntmps)=some p6:=by kernel_rfl
def p7l0:PC:=(⟨_,by conv=>lhs;reduce⟩:Rd (K f7 0 [])).1
def p7l1:PC:=(⟨_,by conv=>lhs;reduce⟩:Rd (fun a=>K f7 1 [a])).1 p7l0
def p7:PC:=(⟨_,by conv=>lhs;reduce⟩:Rd (fun a=>G f7 [a])).1 p7l1
theorem c7:f7.body.bind (AK f7.ntmps)=some p7:=by kernel_rfl
def p8l0:PC:=(⟨_,by conv=>lhs;reduce⟩:Rd (K f8 0 [])).1
def p8:PC:=(⟨_,by conv=>lhs;reduce⟩:Rd (fun a=>G f8 [a])).1 p8l0
theorem c8:f8.body.bind (AK f8.ntmps)=some p8:=by kernel_rfl
def p9l0:PC:=(⟨_,by conv=>lhs;reduce⟩:Rd (K f9 0 [])).1
def p9:PC:=(⟨_,by conv=>lhs;reduce⟩:Rd (fun a=>G f9 [a])).1 p9l0
theorem c9:f9.body.bind (AK f9.ntmps)=some p9:=by kernel_rfl
def qI:PC:=(⟨_,by conv=>lhs;reduce⟩:Rd (K f10 0 [])).1
def qJ:PC:=(⟨_,by conv=>lhs;reduce⟩:Rd (K f10 1 [])).1
def qK:PC:=(⟨_,by conv=>lhs;reduce⟩:Rd (fun a=>K f10 2 [a])).1 qJ
def qL:PC:=(⟨_,by conv=>lhs;reduce⟩:Rd (fun a b=>K f10 3 [a,b])).1 qI qK
def qM:PC:=(⟨_,by conv=>lhs;reduce⟩:Rd (fun a=>K f10 4 [a])).1 qL
def p10:PC:=(⟨_,by conv=>lhs;reduce⟩:Rd (fun a=>G f10 [a])).1 qM
theorem c10:f10.body.bind (AK f10.ntmps)=some p10:=by kernel_rfl
def p11:PC:=(⟨_,by conv=>lhs;reduce⟩:Rd (G f11 [])).1
theorem c11:f11.body.bind (AK f11.ntmps)=some p11:=by kernel_rfl
def p18:PC:=(⟨_,by conv=>lhs;reduce⟩:Rd (G f18 [])).1
theorem c18:f18.body.bind (AK f18.ntmps)=some p18:=by kernel_rfl
def p19:PC:=(⟨_,by conv=>lhs;reduce⟩:Rd (G f19 [])).1
theorem c19:f19.body.bind (AK f19.ntmps)=some p19:=by kernel_rfl
def p20:PC:=(⟨_,by conv=>lhs;reduce⟩:Rd (G f20 [])).1
theorem c20:f20.body.bind (AK f20.ntmps)=some p20:=by kernel_rfl
def ABJ:PC:=(⟨_,by conv=>lhs;reduce⟩:Rd (K f27 0 [])).1
def p27:PC:=(⟨_,by conv=>lhs;reduce⟩:Rd (fun a=>G f27 [a])).1 ABJ
theorem c27:f27.body.bind (AK f27.ntmps)=some p27:=by kernel_rfl
def p28:PC:=(⟨_,by conv=>lhs;reduce⟩:Rd (G f28 [])).1
theorem c28:f28.body.bind (AK f28.ntmps)=some p28:=by kernel_rfl
def p29:PC:=(⟨_,by conv=>lhs;reduce⟩:Rd (G f29 [])).1
theorem c29:f29.body.bind (AK f29.ntmps)=some p29:=by kernel_rfl
def p32:PC:=(⟨_,by conv=>lhs;reduce⟩:Rd (G f32 [])).1
theorem c32:f32.body.bind (AK f32.ntmps)=some p32:=by kernel_rfl
def p34:PC:=(⟨_,by conv=>lhs;reduce⟩:Rd (G f34 [])).1
theorem c34:f34.body.bind (AK f34.ntmps)=some p34:=by kernel_rfl
def p36:PC:=(⟨_,by conv=>lhs;reduce⟩:Rd (G f36 [])).1
theorem c36:f36.body.bind (AK f36.ntmps)=some p36:=by kernel_rfl
def p37:PC:=(⟨_,by conv=>lhs;reduce⟩:Rd (G f37 [])).1
theorem c37:f37.body.bind (AK f37.ntmps)=some p37:=by kernel_rfl
def PQ:PC:=(⟨_,by conv=>lhs;reduce⟩:Rd (K f38 0 [])).1
def p38:PC:=(⟨_,by conv=>lhs;reduce⟩:Rd (fun a=>G f38 [a])).1 PQ
theorem c38:f38.body.bind (AK f38.ntmps)=some p38:=by kernel_rfl
def PR:PC:=(⟨_,by conv=>lhs;reduce⟩:Rd (K f39 0 [])).1
def p39:PC:=(⟨_,by conv=>lhs;reduce⟩:Rd (fun a=>G f39 [a])).1 PR
theorem c39:f39.body.bind (AK f39.ntmps)=some p39:=by kernel_rfl
def AAg:PC:=(⟨_,by conv=>lhs;reduce⟩:Rd (K f44 0 [])).1
def p44:PC:=(⟨_,by conv=>lhs;reduce⟩:Rd (fun a=>G f44 [a])).1 AAg
theorem c44:f44.body.bind (AK f44.ntmps)=some p44:=by kernel_rfl
def p45:PC:=(⟨_,by conv=>lhs;reduce⟩:Rd (G f45 [])).1
theorem c45:f45.body.bind (AK f45.ntmps)=some p45:=by kernel_rfl
def dz:PC:=(⟨_,by conv=>lhs;reduce⟩:Rd (K f46 0 [])).1
def AAZ:PC:=(⟨_,by conv=>lhs;reduce⟩:Rd (fun a=>K f46 1 [a])).1 dz
def p46:PC:=(⟨_,by conv=>lhs;reduce⟩:Rd (fun a=>G f46 [a])).1 AAZ
theorem c46:f46.body.bind (AK f46.ntmps)=some p46:=by kernel_rfl
def ABK:PC:=(⟨_,by conv=>lhs;reduce⟩:Rd (K f47 0 [])).1
def p47:PC:=(⟨_,by conv=>lhs;reduce⟩:Rd (fun a=>G f47 [a])).1 ABK
theorem c47:f47.body.bind (AK f47.ntmps)=some p47:=by kernel_rfl
def bC:PC:=(⟨_,by conv=>lhs;reduce⟩:Rd (K f50 0 [])).1
def p50:PC:=(⟨_,by conv=>lhs;reduce⟩:Rd (fun a=>G f50 [a])).1 bC
theorem c50:f50.body.bind (AK f50.ntmps)=some p50:=by kernel_rfl
def PS:PC:=(⟨_,by conv=>lhs;reduce⟩:Rd (K f53 0 [])).1
def PT:PC:=(⟨_,by conv=>lhs;reduce⟩:Rd (K f53 1 [])).1
def p53:PC:=(⟨_,by conv=>lhs;reduce⟩:Rd (fun a b=>G f53 [a,b])).1 PS PT
theorem c53:f53.body.bind (AK f53.ntmps)=some p53:=by kernel_rfl
def Ti:PC:=(⟨_,by conv=>lhs;reduce⟩:Rd (K f55 0 [])).1
def p55:PC:=(⟨_,by conv=>lhs;reduce⟩:Rd (fun a=>G f55 [a])).1 Ti
theorem c55:f55.body.bind (AK f55.ntmps)=some p55:=by kernel_rfl
def p56:PC:=(⟨_,by conv=>lhs;reduce⟩:Rd (G f56 [])).1
theorem c56:f56.body.bind (AK f56.ntmps)=some p56:=by kernel_rfl
def p58:PC:=(⟨_,by conv=>lhs;reduce⟩:Rd (G f58 [])).1
theorem c58:f58.body.bind (AK f58.ntmps)=some p58:=by kernel_rfl
def p59:PC:=(⟨_,by conv=>lhs;reduce⟩:Rd (G f59 [])).1
theorem c59:f59.body.bind (AK f59.ntmps)=some p59:=by kernel_rfl
def Tj:PC:=(⟨_,by conv=>lhs;reduce⟩:Rd (K f60 0 [])).1
def p60:PC:=(⟨_,by conv=>lhs;reduce⟩:Rd (fun a=>G f60 [a])).1 Tj
theorem c60:f60.body.bind (AK f60.ntmps)=some p60:=by kernel_rfl
def p68:PC:=(⟨_,by conv=>lhs;reduce⟩:Rd (G f68 [])).1
theorem c68:f68.body.bind (AK f68.ntmps)=some p68:=by kernel_rfl
def D1:PC:=(⟨_,by conv=>lhs;reduce⟩:Rd (K f69 0 [])).1
def p69:PC:=(⟨_,by conv=>lhs;reduce⟩:Rd (fun a=>G f69 [a])).1 D1
theorem c69:f69.body.bind (AK f69.ntmps)=some p69:=by kernel_rfl
def bD:PC:=(⟨_,by conv=>lhs;reduce⟩:Rd (K f70 0 [])).1
def p70:PC:=(⟨_,by conv=>lhs;reduce⟩:Rd (fun a=>G f70 [a])).1 bD
theorem c70:f70.body.bind (AK f70.ntmps)=some p70:=by kernel_rfl
def p71:PC:=(⟨_,by conv=>lhs;reduce⟩:Rd (G f71 [])).1
theorem c71:f71.body.bind (AK f71.ntmps)=some p71:=by kernel_rfl
def p72:PC:=(⟨_,by conv=>lhs;reduce⟩:Rd (G f72 [])).1
theorem c72:f72.body.bind (AK f72.ntmps)=some p72:=by kernel_rfl
def p73:PC:=(⟨_,by conv=>lhs;reduce⟩:Rd (G f73 [])).1
theorem c73:f73.body.bind (AK f73.ntmps)=some p73:=by kernel_rfl
def wU:PC:=(⟨_,by conv=>lhs;reduce⟩:Rd (K f74 0 [])).1
def p74:PC:=(⟨_,by conv=>lhs;reduce⟩:Rd (fun a=>G f74 [a])).1 wU
theorem c74:f74.body.bind (AK f74.ntmps)=some p74:=by kernel_rfl
def jL:PC:=(⟨_,by conv=>lhs;reduce⟩:Rd (K f77 0 [])).1
def p77:PC:=(⟨_,by conv=>lhs;reduce⟩:Rd (fun a=>G f77 [a])).1 jL
theorem c77:f77.body.bind (AK f77.ntmps)=some p77:=by kernel_rfl
def p81:PC:=(⟨_,by conv=>lhs;reduce⟩:Rd (G f81 [])).1
theorem c81:f81.body.bind (AK f81.ntmps)=some p81:=by kernel_rfl
def uz:PC:=(⟨_,by conv=>lhs;reduce⟩:Rd (K f82 0 [])).1
def p82:PC:=(⟨_,by conv=>lhs;reduce⟩:Rd (fun a=>G f82 [a])).1 uz
theorem c82:f82.body.bind (AK f82.ntmps)=some p82:=by kernel_rfl
def p83:PC:=(⟨_,by conv=>lhs;reduce⟩:Rd (G f83 [])).1
theorem c83:f83.body.bind (AK f83.ntmps)=some p83:=by kernel_rfl
def p84:PC:=(⟨_,by conv=>lhs;reduce⟩:Rd (G f84 [])).1
theorem c84:f84.body.bind (AK f84.ntmps)=some p84:=by kernel_rfl
def PU:PC:=(⟨_,by conv=>lhs;reduce⟩:Rd (K f85 0 [])).1
def p85:PC:=(⟨_,by conv=>lhs;reduce⟩:Rd (fun a=>G f85 [a])).1 PU
theorem c85:f85.body.bind (AK f85.ntmps)=some p85:=by kernel_rfl
def Tk:PC:=(⟨_,by conv=>lhs;reduce⟩:Rd (K f88 0 [])).1
def Tl:PC:=(⟨_,by conv=>lhs;reduce⟩:Rd (K f88 1 [])).1
def LC:PC:=(⟨_,by conv=>lhs;reduce⟩:Rd (fun a b=>K f88 2 [a,b])).1 Tk Tl
def p88:PC:=(⟨_,by conv=>lhs;reduce⟩:Rd (fun a=>G f88 [a])).1 LC
theorem c88:f88.body.bind (AK f88.ntmps)=some p88:=by kernel_rfl
def HI:PC:=(⟨_,by conv=>lhs;reduce⟩:Rd (K f89 0 [])).1
def p89:PC:=(⟨_,by conv=>lhs;reduce⟩:Rd (fun a=>G f89 [a])).1 HI
theorem c89:f89.body.bind (AK f89.ntmps)=some p89:=by kernel_rfl
def p90:PC:=(⟨_,by conv=>lhs;reduce⟩:Rd (G f90 [])).1
theorem c90:f90.body.bind (AK f90.ntmps)=some p90:=by kernel_rfl
def p91:PC:=(⟨_,by conv=>lhs;reduce⟩:Rd (G f91 [])).1
theorem c91:f91.body.bind (AK f91.ntmps)=some p91:=by kernel_rfl
def p92:PC:=(⟨_,by conv=>lhs;reduce⟩:Rd (G f92 [])).1
theorem c92:f92.body.bind (AK f92.ntmps)=some p92:=by kernel_rfl
def p93:PC:=(⟨_,by conv=>lhs;reduce⟩:Rd (G f93 [])).1
theorem c93:f93.body.bind (AK f93.ntmps)=some p93:=by kernel_rfl
def p94:PC:=(⟨_,by conv=>lhs;reduce⟩:Rd (G f94 [])).1
theorem c94:f94.body.bind (AK f94.ntmps)=some p94:=by kernel_rfl
def PV:PC:=(⟨_,by conv=>lhs;reduce⟩:Rd (K f95 0 [])).1
def p95:PC:=(⟨_,by conv=>lhs;reduce⟩:Rd (fun a=>G f95 [a])).1 PV
theorem c95:f95.body.bind (AK f95.ntmps)=some p95:=by kernel_rfl
def p96:PC:=(⟨_,by conv=>lhs;reduce⟩:Rd (G f96 [])).1
theorem c96:f96.body.bind (AK f96.ntmps)=some p96:=by kernel_rfl
def sk:PC:=(⟨_,by conv=>lhs;reduce⟩:Rd (K f97 0 [])).1
def p97:PC:=(⟨_,by conv=>lhs;reduce⟩:Rd (fun a=>G f97 [a])).1 sk
theorem c97:f97.body.bind (AK f97.ntmps)=some p97:=by kernel_rfl
def p98:PC:=(⟨_,by conv=>lhs;reduce⟩:Rd (G f98 [])).1
theorem c98:f98.body.bind (AK f98.ntmps)=some p98:=by kernel_rfl
def p99:PC:=(⟨_,by conv=>lhs;reduce⟩:Rd (G f99 [])).1
theorem c99:f99.body.bind (AK f99.ntmps)=some p99:=by kernel_rfl
def p100:PC:=(⟨_,by conv=>lhs;reduce⟩:Rd (G f100 [])).1
theorem yj:f100.body.bind (AK f100.ntmps)=some p100:=by kernel_rfl
def p101:PC:=(⟨_,by conv=>lhs;reduce⟩:Rd (G f101 [])).1
theorem zm:f101.body.bind (AK f101.ntmps)=some p101:=by kernel_rfl
def p102:PC:=(⟨_,by conv=>lhs;reduce⟩:Rd (G f102 [])).1
theorem yk:f102.body.bind (AK f102.ntmps)=some p102:=by kernel_rfl
def Az:PC:=(⟨_,by conv=>lhs;reduce⟩:Rd (K f103 0 [])).1
def A3:PC:=(⟨_,by conv=>lhs;reduce⟩:Rd (K f103 1 [])).1
def p103:PC:=(⟨_,by conv=>lhs;reduce⟩:Rd (fun a b=>G f103 [a,b])).1 Az A3
theorem c103:f103.body.bind (AK f103.ntmps)=some p103:=by kernel_rfl
def p104:PC:=(⟨_,by conv=>lhs;reduce⟩:Rd (G f104 [])).1
theorem qN:f104.body.bind (AK f104.ntmps)=some p104:=by kernel_rfl
def p105:PC:=(⟨_,by conv=>lhs;reduce⟩:Rd (G f105 [])).1
theorem c105:f105.body.bind (AK f105.ntmps)=some p105:=by kernel_rfl
def p106:PC:=(⟨_,by conv=>lhs;reduce⟩:Rd (G f106 [])).1
theorem c106:f106.body.bind (AK f106.ntmps)=some p106:=by kernel_rfl
def p107:PC:=(⟨_,by conv=>lhs;reduce⟩:Rd (G f107 [])).1
theorem c107:f107.body.bind (AK f107.ntmps)=some p107:=by kernel_rfl
def p108:PC:=(⟨_,by conv=>lhs;reduce⟩:Rd (G f108 [])).1
theorem c108:f108.body.bind (AK f108.ntmps)=some p108:=by kernel_rfl
def NY:PC:=(⟨_,by conv=>lhs;reduce⟩:Rd (K f109 0 [])).1
def p109:PC:=(⟨_,by conv=>lhs;reduce⟩:Rd (fun a=>G f109 [a])).1 NY
theorem c109:f109.body.bind (AK f109.ntmps)=some p109:=by kernel_rfl
def p110:PC:=(⟨_,by conv=>lhs;reduce⟩:Rd (G f110 [])).1
theorem c110:f110.body.bind (AK f110.ntmps)=some p110:=by kernel_rfl
def p111:PC:=(⟨_,by conv=>lhs;reduce⟩:Rd (G f111 [])).1
theorem c111:f111.body.bind (AK f111.ntmps)=some p111:=by kernel_rfl
def sO:PC:=(⟨_,by conv=>lhs;reduce⟩:Rd (K f112 0 [])).1
def p112:PC:=(⟨_,by conv=>lhs;reduce⟩:Rd (fun a=>G f112 [a])).1 sO
theorem c112:f112.body.bind (AK f112.ntmps)=some p112:=by kernel_rfl
def p113:PC:=(⟨_,by conv=>lhs;reduce⟩:Rd (G f113 [])).1
theorem c113:f113.body.bind (AK f113.ntmps)=some p113:=by kernel_rfl
def p114:PC:=(⟨_,by conv=>lhs;reduce⟩:Rd (G f114 [])).1
theorem c114:f114.body.bind (AK f114.ntmps)=some p114:=by kernel_rfl
def p115:PC:=(⟨_,by conv=>lhs;reduce⟩:Rd (G f115 [])).1
theorem qO:f115.body.bind (AK f115.ntmps)=some p115:=by kernel_rfl
def p116:PC:=(⟨_,by conv=>lhs;reduce⟩:Rd (G f116 [])).1
theorem c116:f116.body.bind (AK f116.ntmps)=some p116:=by kernel_rfl
def NZ:PC:=(⟨_,by conv=>lhs;reduce⟩:Rd (K f117 0 [])).1
def p117:PC:=(⟨_,by conv=>lhs;reduce⟩:Rd (fun a=>G f117 [a])).1 NZ
theorem c117:f117.body.bind (AK f117.ntmps)=some p117:=by kernel_rfl
def p118:PC:=(⟨_,by conv=>lhs;reduce⟩:Rd (G f118 [])).1
theorem c118:f118.body.bind (AK f118.ntmps)=some p118:=by kernel_rfl
def p119:PC:=(⟨_,by conv=>lhs;reduce⟩:Rd (G f119 [])).1
theorem c119:f119.body.bind (AK f119.ntmps)=some p119:=by kernel_rfl
def p120:PC:=(⟨_,by conv=>lhs;reduce⟩:Rd (G f120 [])).1
theorem c120:f120.body.bind (AK f120.ntmps)=some p120:=by kernel_rfl
def p121:PC:=(⟨_,by conv=>lhs;reduce⟩:Rd (G f121 [])).1
theorem qP:f121.body.bind (AK f121.ntmps)=some p121:=by kernel_rfl
def s9:PC:=(⟨_,by conv=>lhs;reduce⟩:Rd (K f122 0 [])).1
def p122:PC:=(⟨_,by conv=>lhs;reduce⟩:Rd (fun a=>G f122 [a])).1 s9
theorem c122:f122.body.bind (AK f122.ntmps)=some p122:=by kernel_rfl
def p123:PC:=(⟨_,by conv=>lhs;reduce⟩:Rd (G f123 [])).1
theorem c123:f123.body.bind (AK f123.ntmps)=some p123:=by kernel_rfl
def SA:PC:=(⟨_,by conv=>lhs;reduce⟩:Rd (K f124 0 [])).1
def p124:PC:=(⟨_,by conv=>lhs;reduce⟩:Rd (fun a=>G f124 [a])).1 SA
theorem c124:f124.body.bind (AK f124.ntmps)=some p124:=by kernel_rfl
def bE:PC:=(⟨_,by conv=>lhs;reduce⟩:Rd (K f125 0 [])).1
def p125:PC:=(⟨_,by conv=>lhs;reduce⟩:Rd (fun a=>G f125 [a])).1 bE
theorem c125:f125.body.bind (AK f125.ntmps)=some p125:=by kernel_rfl
def Ba:PC:=(⟨_,by conv=>lhs;reduce⟩:Rd (K f126 0 [])).1
def Bb:PC:=(⟨_,by conv=>lhs;reduce⟩:Rd (K f126 1 [])).1
def p126:PC:=(⟨_,by conv=>lhs;reduce⟩:Rd (fun a b=>G f126 [a,b])).1 Ba Bb
theorem c126:f126.body.bind (AK f126.ntmps)=some p126:=by kernel_rfl
def p127:PC:=(⟨_,by conv=>lhs;reduce⟩:Rd (G f127 [])).1
theorem qQ:f127.body.bind (AK f127.ntmps)=some p127:=by kernel_rfl
def p128:PC:=(⟨_,by conv=>lhs;reduce⟩:Rd (G f128 [])).1
theorem LE:f128.body.bind (AK f128.ntmps)=some p128:=by kernel_rfl
def p129:PC:=(⟨_,by conv=>lhs;reduce⟩:Rd (G f129 [])).1
theorem c129:f129.body.bind (AK f129.ntmps)=some p129:=by kernel_rfl
def JJ:PC:=(⟨_,by conv=>lhs;reduce⟩:Rd (K f133 0 [])).1
def LF:PC:=(⟨_,by conv=>lhs;reduce⟩:Rd (fun a=>K f133 1 [a])).1 JJ
def p133:PC:=(⟨_,by conv=>lhs;reduce⟩:Rd (fun a=>G f133 [a])).1 LF
theorem c133:f133.body.bind (AK f133.ntmps)=some p133:=by kernel_rfl
def sP:PC:=(⟨_,by conv=>lhs;reduce⟩:Rd (K f134 0 [])).1
def tA:PC:=(⟨_,by conv=>lhs;reduce⟩:Rd (fun a=>K f134 1 [a])).1 sP
def sQ:PC:=(⟨_,by conv=>lhs;reduce⟩:Rd (K f134 2 [])).1
def p134:PC:=(⟨_,by conv=>lhs;reduce⟩:Rd (fun a b=>G f134 [a,b])).1 tA sQ
theorem ym:f134.body.bind (AK f134.ntmps)=some p134:=by kernel_rfl
def GV:PC:=(⟨_,by conv=>lhs;reduce⟩:Rd (K f135 0 [])).1
def p135:PC:=(⟨_,by conv=>lhs;reduce⟩:Rd (fun a=>G f135 [a])).1 GV
theorem zo:f135.body.bind (AK f135.ntmps)=some p135:=by kernel_rfl
def p136:PC:=(⟨_,by conv=>lhs;reduce⟩:Rd (G f136 [])).1
theorem mA:f136.body.bind (AK f136.ntmps)=some p136:=by kernel_rfl
def p137:PC:=(⟨_,by conv=>lhs;reduce⟩:Rd (G f137 [])).1
theorem qR:f137.body.bind (AK f137.ntmps)=some p137:=by kernel_rfl
def sR:PC:=(⟨_,by conv=>lhs;reduce⟩:Rd (K f138 0 [])).1
def p138:PC:=(⟨_,by conv=>lhs;reduce⟩:Rd (fun a=>G f138 [a])).1 sR
theorem uc:f138.body.bind (AK f138.ntmps)=some p138:=by kernel_rfl
def Xl:PC:=(⟨_,by conv=>lhs;reduce⟩:Rd (K f139 0 [])).1
def p139:PC:=(⟨_,by conv=>lhs;reduce⟩:Rd (fun a=>G f139 [a])).1 Xl
theorem zp:f139.body.bind (AK f139.ntmps)=some p139:=by kernel_rfl
def p140:PC:=(⟨_,by conv=>lhs;reduce⟩:Rd (G f140 [])).1
theorem c140:f140.body.bind (AK f140.ntmps)=some p140:=by kernel_rfl
def sS:PC:=(⟨_,by conv=>lhs;reduce⟩:Rd (K f141 0 [])).1
def p141:PC:=(⟨_,by conv=>lhs;reduce⟩:Rd (fun a=>G f141 [a])).1 sS
theorem zq:f141.body.bind (AK f141.ntmps)=some p141:=by kernel_rfl
def tB:PC:=(⟨_,by conv=>lhs;reduce⟩:Rd (K f142 0 [])).1
def p142:PC:=(⟨_,by conv=>lhs;reduce⟩:Rd (fun a=>G f142 [a])).1 tB
theorem c142:f142.body.bind (AK f142.ntmps)=some p142:=by kernel_rfl
def p143:PC:=(⟨_,by conv=>lhs;reduce⟩:Rd (G f143 [])).1
theorem c143:f143.body.bind (AK f143.ntmps)=some p143:=by kernel_rfl
def p144:PC:=(⟨_,by conv=>lhs;reduce⟩:Rd (G f144 [])).1
theorem c144:f144.body.bind (AK f144.ntmps)=some p144:=by kernel_rfl
def p145:PC:=(⟨_,by conv=>lhs;reduce⟩:Rd (G f145 [])).1
theorem c145:f145.body.bind (AK f145.ntmps)=some p145:=by kernel_rfl
def p146:PC:=(⟨_,by conv=>lhs;reduce⟩:Rd (G f146 [])).1
theorem c146:f146.body.bind (AK f146.ntmps)=some p146:=by kernel_rfl
def p147:PC:=(⟨_,by conv=>lhs;reduce⟩:Rd (G f147 [])).1
theorem c147:f147.body.bind (AK f147.ntmps)=some p147:=by kernel_rfl
def p148:PC:=(⟨_,by conv=>lhs;reduce⟩:Rd (G f148 [])).1
theorem zr:f148.body.bind (AK f148.ntmps)=some p148:=by kernel_rfl
def p149:PC:=(⟨_,by conv=>lhs;reduce⟩:Rd (G f149 [])).1
theorem c149:f149.body.bind (AK f149.ntmps)=some p149:=by kernel_rfl
def ud:PC:=(⟨_,by conv=>lhs;reduce⟩:Rd (K f150 0 [])).1
def p150:PC:=(⟨_,by conv=>lhs;reduce⟩:Rd (fun a=>G f150 [a])).1 ud
theorem c150:f150.body.bind (AK f150.ntmps)=some p150:=by kernel_rfl
def p155:PC:=(⟨_,by conv=>lhs;reduce⟩:Rd (G f155 [])).1
theorem c155:f155.body.bind (AK f155.ntmps)=some p155:=by kernel_rfl
def p156:PC:=(⟨_,by conv=>lhs;reduce⟩:Rd (G f156 [])).1
theorem qS:f156.body.bind (AK f156.ntmps)=some p156:=by kernel_rfl
def tC:PC:=(⟨_,by conv=>lhs;reduce⟩:Rd (K f157 0 [])).1
def p157:PC:=(⟨_,by conv=>lhs;reduce⟩:Rd (fun a=>G f157 [a])).1 tC
theorem c157:f157.body.bind (AK f157.ntmps)=some p157:=by kernel_rfl
def p158:PC:=(⟨_,by conv=>lhs;reduce⟩:Rd (G f158 [])).1
theorem qT:f158.body.bind (AK f158.ntmps)=some p158:=by kernel_rfl
def bF:PC:=(⟨_,by conv=>lhs;reduce⟩:Rd (K f159 0 [])).1
def p159:PC:=(⟨_,by conv=>lhs;reduce⟩:Rd (fun a=>G f159 [a])).1 bF
theorem qU:f159.body.bind (AK f159.ntmps)=some p159:=by kernel_rfl
def bG:PC:=(⟨_,by conv=>lhs;reduce⟩:Rd (K f160 0 [])).1
def p160:PC:=(⟨_,by conv=>lhs;reduce⟩:Rd (fun a=>G f160 [a])).1 bG
theorem c160:f160.body.bind (AK f160.ntmps)=some p160:=by kernel_rfl
def p161:PC:=(⟨_,by conv=>lhs;reduce⟩:Rd (G f161 [])).1
theorem c161:f161.body.bind (AK f161.ntmps)=some p161:=by kernel_rfl
def p162:PC:=(⟨_,by conv=>lhs;reduce⟩:Rd (G f162 [])).1
theorem qV:f162.body.bind (AK f162.ntmps)=some p162:=by kernel_rfl
def SE:PC:=(⟨_,by conv=>lhs;reduce⟩:Rd (K f163 0 [])).1
def p163:PC:=(⟨_,by conv=>lhs;reduce⟩:Rd (fun a=>G f163 [a])).1 SE
theorem c163:f163.body.bind (AK f163.ntmps)=some p163:=by kernel_rfl
def p164:PC:=(⟨_,by conv=>lhs;reduce⟩:Rd (G f164 [])).1
theorem qW:f164.body.bind (AK f164.ntmps)=some p164:=by kernel_rfl
def p165:PC:=(⟨_,by conv=>lhs;reduce⟩:Rd (G f165 [])).1
theorem c165:f165.body.bind (AK f165.ntmps)=some p165:=by kernel_rfl
def p166:PC:=(⟨_,by conv=>lhs;reduce⟩:Rd (G f166 [])).1
theorem qX:f166.body.bind (AK f166.ntmps)=some p166:=by kernel_rfl
def bH:PC:=(⟨_,by conv=>lhs;reduce⟩:Rd (K f167 0 [])).1
def p167:PC:=(⟨_,by conv=>lhs;reduce⟩:Rd (fun a=>G f167 [a])).1 bH
theorem c167:f167.body.bind (AK f167.ntmps)=some p167:=by kernel_rfl
def p168:PC:=(⟨_,by conv=>lhs;reduce⟩:Rd (G f168 [])).1
theorem qY:f168.body.bind (AK f168.ntmps)=some p168:=by kernel_rfl
def p169:PC:=(⟨_,by conv=>lhs;reduce⟩:Rd (G f169 [])).1
theorem c169:f169.body.bind (AK f169.ntmps)=some p169:=by kernel_rfl
def SG:PC:=(⟨_,by conv=>lhs;reduce⟩:Rd (K f170 0 [])).1
def p170:PC:=(⟨_,by conv=>lhs;reduce⟩:Rd (fun a=>G f170 [a])).1 SG
theorem c170:f170.body.bind (AK f170.ntmps)=some p170:=by kernel_rfl
def p171:PC:=(⟨_,by conv=>lhs;reduce⟩:Rd (G f171 [])).1
theorem mB:f171.body.bind (AK f171.ntmps)=some p171:=by kernel_rfl
def sT:PC:=(⟨_,by conv=>lhs;reduce⟩:Rd (K f172 0 [])).1
def p172:PC:=(⟨_,by conv=>lhs;reduce⟩:Rd (fun a=>G f172 [a])).1 sT
theorem tp:f172.body.bind (AK f172.ntmps)=some p172:=by kernel_rfl
def Cs:PC:=(⟨_,by conv=>lhs;reduce⟩:Rd (K f173 0 [])).1
def p173:PC:=(⟨_,by conv=>lhs;reduce⟩:Rd (fun a=>G f173 [a])).1 Cs
theorem c173:f173.body.bind (AK f173.ntmps)=some p173:=by kernel_rfl
def p174:PC:=(⟨_,by conv=>lhs;reduce⟩:Rd (G f174 [])).1
theorem c174:f174.body.bind (AK f174.ntmps)=some p174:=by kernel_rfl
def bI:PC:=(⟨_,by conv=>lhs;reduce⟩:Rd (K f175 0 [])).1
def p175:PC:=(⟨_,by conv=>lhs;reduce⟩:Rd (fun a=>G f175 [a])).1 bI
theorem c175:f175.body.bind (AK f175.ntmps)=some p175:=by kernel_rfl
def p176:PC:=(⟨_,by conv=>lhs;reduce⟩:Rd (G f176 [])).1
theorem c176:f176.body.bind (AK f176.ntmps)=some p176:=by kernel_rfl
def bJ:PC:=(⟨_,by conv=>lhs;reduce⟩:Rd (K f177 0 [])).1
def p177:PC:=(⟨_,by conv=>lhs;reduce⟩:Rd (fun a=>G f177 [a])).1 bJ
theorem c177:f177.body.bind (AK f177.ntmps)=some p177:=by kernel_rfl
def bK:PC:=(⟨_,by conv=>lhs;reduce⟩:Rd (K f178 0 [])).1
def p178:PC:=(⟨_,by conv=>lhs;reduce⟩:Rd (fun a=>G f178 [a])).1 bK
theorem c178:f178.body.bind (AK f178.ntmps)=some p178:=by kernel_rfl
def p179:PC:=(⟨_,by conv=>lhs;reduce⟩:Rd (G f179 [])).1
theorem c179:f179.body.bind (AK f179.ntmps)=some p179:=by kernel_rfl
def tD:PC:=(⟨_,by conv=>lhs;reduce⟩:Rd (K f180 0 [])).1
def p180:PC:=(⟨_,by conv=>lhs;reduce⟩:Rd (fun a=>G f180 [a])).1 tD
theorem c180:f180.body.bind (AK f180.ntmps)=some p180:=by kernel_rfl
def p181:PC:=(⟨_,by conv=>lhs;reduce⟩:Rd (G f181 [])).1
theorem qZ:f181.body.bind (AK f181.ntmps)=some p181:=by kernel_rfl
def JK:PC:=(⟨_,by conv=>lhs;reduce⟩:Rd (K f182 0 [])).1
def p182:PC:=(⟨_,by conv=>lhs;reduce⟩:Rd (fun a=>G f182 [a])).1 JK
theorem c182:f182.body.bind (AK f182.ntmps)=some p182:=by kernel_rfl
def p183:PC:=(⟨_,by conv=>lhs;reduce⟩:Rd (G f183 [])).1
theorem c183:f183.body.bind (AK f183.ntmps)=some p183:=by kernel_rfl
def p184:PC:=(⟨_,by conv=>lhs;reduce⟩:Rd (G f184 [])).1
theorem c184:f184.body.bind (AK f184.ntmps)=some p184:=by kernel_rfl
def p185:PC:=(⟨_,by conv=>lhs;reduce⟩:Rd (G f185 [])).1
theorem qa:f185.body.bind (AK f185.ntmps)=some p185:=by kernel_rfl
def p186:PC:=(⟨_,by conv=>lhs;reduce⟩:Rd (G f186 [])).1
theorem qb:f186.body.bind (AK f186.ntmps)=some p186:=by kernel_rfl
def wV:PC:=(⟨_,by conv=>lhs;reduce⟩:Rd (K f187 0 [])).1
def p187:PC:=(⟨_,by conv=>lhs;reduce⟩:Rd (fun a=>G f187 [a])).1 wV
theorem c187:f187.body.bind (AK f187.ntmps)=some p187:=by kernel_rfl
def p188:PC:=(⟨_,by conv=>lhs;reduce⟩:Rd (G f188 [])).1
theorem c188:f188.body.bind (AK f188.ntmps)=some p188:=by kernel_rfl
def p189:PC:=(⟨_,by conv=>lhs;reduce⟩:Rd (G f189 [])).1
theorem c189:f189.body.bind (AK f189.ntmps)=some p189:=by kernel_rfl
def p190:PC:=(⟨_,by conv=>lhs;reduce⟩:Rd (G f190 [])).1
theorem c190:f190.body.bind (AK f190.ntmps)=some p190:=by kernel_rfl
def p191:PC:=(⟨_,by conv=>lhs;reduce⟩:Rd (G f191 [])).1
theorem c191:f191.body.bind (AK f191.ntmps)=some p191:=by kernel_rfl
def p192:PC:=(⟨_,by conv=>lhs;reduce⟩:Rd (G f192 [])).1
theorem c192:f192.body.bind (AK f192.ntmps)=some p192:=by kernel_rfl
def p193:PC:=(⟨_,by conv=>lhs;reduce⟩:Rd (G f193 [])).1
theorem c193:f193.body.bind (AK f193.ntmps)=some p193:=by kernel_rfl
def p194:PC:=(⟨_,by conv=>lhs;reduce⟩:Rd (G f194 [])).1
theorem c194:f194.body.bind (AK f194.ntmps)=some p194:=by kernel_rfl
def p195:PC:=(⟨_,by conv=>lhs;reduce⟩:Rd (G f195 [])).1
theorem c195:f195.body.bind (AK f195.ntmps)=some p195:=by kernel_rfl
def p199:PC:=(⟨_,by conv=>lhs;reduce⟩:Rd (G f199 [])).1
theorem gx:f199.body.bind (AK f199.ntmps)=some p199:=by kernel_rfl
def p200:PC:=(⟨_,by conv=>lhs;reduce⟩:Rd (G f200 [])).1
theorem WA:f200.body.bind (AK f200.ntmps)=some p200:=by kernel_rfl
def tE:PC:=(⟨_,by conv=>lhs;reduce⟩:Rd (K f203 0 [])).1
def LG:PC:=(⟨_,by conv=>lhs;reduce⟩:Rd (fun a=>K f203 1 [a])).1 tE
def p203:PC:=(⟨_,by conv=>lhs;reduce⟩:Rd (fun a=>G f203 [a])).1 LG
theorem qc:f203.body.bind (AK f203.ntmps)=some p203:=by kernel_rfl
def p204:PC:=(⟨_,by conv=>lhs;reduce⟩:Rd (G f204 [])).1
theorem qd:f204.body.bind (AK f204.ntmps)=some p204:=by kernel_rfl
def SH:PC:=(⟨_,by conv=>lhs;reduce⟩:Rd (K f205 0 [])).1
def bM:PC:=(⟨_,by conv=>lhs;reduce⟩:Rd (fun a=>K f205 1 [a])).1 SH
def p205:PC:=(⟨_,by conv=>lhs;reduce⟩:Rd (fun a=>G f205 [a])).1 bM
theorem c205:f205.body.bind (AK f205.ntmps)=some p205:=by kernel_rfl
def p206:PC:=(⟨_,by conv=>lhs;reduce⟩:Rd (G f206 [])).1
theorem yn:f206.body.bind (AK f206.ntmps)=some p206:=by kernel_rfl
def p207:PC:=(⟨_,by conv=>lhs;reduce⟩:Rd (G f207 [])).1
theorem zu:f207.body.bind (AK f207.ntmps)=some p207:=by kernel_rfl
def p208:PC:=(⟨_,by conv=>lhs;reduce⟩:Rd (G f208 [])).1
theorem yo:f208.body.bind (AK f208.ntmps)=some p208:=by kernel_rfl
def p209:PC:=(⟨_,by conv=>lhs;reduce⟩:Rd (G f209 [])).1
theorem zw:f209.body.bind (AK f209.ntmps)=some p209:=by kernel_rfl
def p210:PC:=(⟨_,by conv=>lhs;reduce⟩:Rd (G f210 [])).1
theorem c210:f210.body.bind (AK f210.ntmps)=some p210:=by kernel_rfl
def p211:PC:=(⟨_,by conv=>lhs;reduce⟩:Rd (G f211 [])).1
theorem vX:f211.body.bind (AK f211.ntmps)=some p211:=by kernel_rfl
def p212:PC:=(⟨_,by conv=>lhs;reduce⟩:Rd (G f212 [])).1
theorem c212:f212.body.bind (AK f212.ntmps)=some p212:=by kernel_rfl
def p213:PC:=(⟨_,by conv=>lhs;reduce⟩:Rd (G f213 [])).1
theorem c213:f213.body.bind (AK f213.ntmps)=some p213:=by kernel_rfl
def wW:PC:=(⟨_,by conv=>lhs;reduce⟩:Rd (K f214 0 [])).1
def p214:PC:=(⟨_,by conv=>lhs;reduce⟩:Rd (fun a=>G f214 [a])).1 wW
theorem c214:f214.body.bind (AK f214.ntmps)=some p214:=by kernel_rfl
def p215:PC:=(⟨_,by conv=>lhs;reduce⟩:Rd (G f215 [])).1
theorem c215:f215.body.bind (AK f215.ntmps)=some p215:=by kernel_rfl
def p216:PC:=(⟨_,by conv=>lhs;reduce⟩:Rd (G f216 [])).1
theorem c216:f216.body.bind (AK f216.ntmps)=some p216:=by kernel_rfl
def p217:PC:=(⟨_,by conv=>lhs;reduce⟩:Rd (G f217 [])).1
theorem yp:f217.body.bind (AK f217.ntmps)=some p217:=by kernel_rfl
def bN:PC:=(⟨_,by conv=>lhs;reduce⟩:Rd (K f219 0 [])).1
def p219:PC:=(⟨_,by conv=>lhs;reduce⟩:Rd (fun a=>G f219 [a])).1 bN
theorem c219:f219.body.bind (AK f219.ntmps)=some p219:=by kernel_rfl
def p220:PC:=(⟨_,by conv=>lhs;reduce⟩:Rd (G f220 [])).1
theorem c220:f220.body.bind (AK f220.ntmps)=some p220:=by kernel_rfl
def p222:PC:=(⟨_,by conv=>lhs;reduce⟩:Rd (G f222 [])).1
theorem c222:f222.body.bind (AK f222.ntmps)=some p222:=by kernel_rfl
def bO:PC:=(⟨_,by conv=>lhs;reduce⟩:Rd (K f223 0 [])).1
def bP:PC:=(⟨_,by conv=>lhs;reduce⟩:Rd (fun a=>K f223 1 [a])).1 bO
def p223:PC:=(⟨_,by conv=>lhs;reduce⟩:Rd (fun a=>G f223 [a])).1 bP
theorem c223:f223.body.bind (AK f223.ntmps)=some p223:=by kernel_rfl
def SI:PC:=(⟨_,by conv=>lhs;reduce⟩:Rd (K f224 0 [])).1
def bQ:PC:=(⟨_,by conv=>lhs;reduce⟩:Rd (fun a=>K f224 1 [a])).1 SI
def p224:PC:=(⟨_,by conv=>lhs;reduce⟩:Rd (fun a=>G f224 [a])).1 bQ
theorem c224:f224.body.bind (AK f224.ntmps)=some p224:=by kernel_rfl
def bR:PC:=(⟨_,by conv=>lhs;reduce⟩:Rd (K f225 0 [])).1
def p225:PC:=(⟨_,by conv=>lhs;reduce⟩:Rd (fun a=>G f225 [a])).1 bR
theorem c225:f225.body.bind (AK f225.ntmps)=some p225:=by kernel_rfl
def p226:PC:=(⟨_,by conv=>lhs;reduce⟩:Rd (G f226 [])).1
theorem c226:f226.body.bind (AK f226.ntmps)=some p226:=by kernel_rfl
def wX:PC:=(⟨_,by conv=>lhs;reduce⟩:Rd (K f227 0 [])).1
def p227:PC:=(⟨_,by conv=>lhs;reduce⟩:Rd (fun a=>G f227 [a])).1 wX
theorem c227:f227.body.bind (AK f227.ntmps)=some p227:=by kernel_rfl
def wY:PC:=(⟨_,by conv=>lhs;reduce⟩:Rd (K f228 0 [])).1
def p228:PC:=(⟨_,by conv=>lhs;reduce⟩:Rd (fun a=>G f228 [a])).1 wY
theorem c228:f228.body.bind (AK f228.ntmps)=some p228:=by kernel_rfl
def ri:PC:=(⟨_,by conv=>lhs;reduce⟩:Rd (K f229 0 [])).1
def p229:PC:=(⟨_,by conv=>lhs;reduce⟩:Rd (fun a=>G f229 [a])).1 ri
theorem zx:f229.body.bind (AK f229.ntmps)=some p229:=by kernel_rfl
def p230:PC:=(⟨_,by conv=>lhs;reduce⟩:Rd (G f230 [])).1
theorem ue:f230.body.bind (AK f230.ntmps)=some p230:=by kernel_rfl
def p231:PC:=(⟨_,by conv=>lhs;reduce⟩:Rd (G f231 [])).1
theorem yq:f231.body.bind (AK f231.ntmps)=some p231:=by kernel_rfl
def p232:PC:=(⟨_,by conv=>lhs;reduce⟩:Rd (G f232 [])).1
theorem c232:f232.body.bind (AK f232.ntmps)=some p232:=by kernel_rfl
def p233:PC:=(⟨_,by conv=>lhs;reduce⟩:Rd (G f233 [])).1
theorem c233:f233.body.bind (AK f233.ntmps)=some p233:=by kernel_rfl
def sV:PC:=(⟨_,by conv=>lhs;reduce⟩:Rd (K f234 0 [])).1
def p234:PC:=(⟨_,by conv=>lhs;reduce⟩:Rd (fun a=>G f234 [a])).1 sV
theorem zy:f234.body.bind (AK f234.ntmps)=some p234:=by kernel_rfl
def p235:PC:=(⟨_,by conv=>lhs;reduce⟩:Rd (G f235 [])).1
theorem c235:f235.body.bind (AK f235.ntmps)=some p235:=by kernel_rfl
def bS:PC:=(⟨_,by conv=>lhs;reduce⟩:Rd (K f236 0 [])).1
def p236:PC:=(⟨_,by conv=>lhs;reduce⟩:Rd (fun a=>G f236 [a])).1 bS
theorem c236:f236.body.bind (AK f236.ntmps)=some p236:=by kernel_rfl
def p237:PC:=(⟨_,by conv=>lhs;reduce⟩:Rd (G f237 [])).1
theorem c237:f237.body.bind (AK f237.ntmps)=some p237:=by kernel_rfl
def p238:PC:=(⟨_,by conv=>lhs;reduce⟩:Rd (G f238 [])).1
theorem c238:f238.body.bind (AK f238.ntmps)=some p238:=by kernel_rfl
def p239:PC:=(⟨_,by conv=>lhs;reduce⟩:Rd (G f239 [])).1
theorem c239:f239.body.bind (AK f239.ntmps)=some p239:=by kernel_rfl
def p240:PC:=(⟨_,by conv=>lhs;reduce⟩:Rd (G f240 [])).1
theorem c240:f240.body.bind (AK f240.ntmps)=some p240:=by kernel_rfl
def bT:PC:=(⟨_,by conv=>lhs;reduce⟩:Rd (K f241 0 [])).1
def p241:PC:=(⟨_,by conv=>lhs;reduce⟩:Rd (fun a=>G f241 [a])).1 bT
theorem c241:f241.body.bind (AK f241.ntmps)=some p241:=by kernel_rfl
def p242:PC:=(⟨_,by conv=>lhs;reduce⟩:Rd (G f242 [])).1
theorem c242:f242.body.bind (AK f242.ntmps)=some p242:=by kernel_rfl
def p243:PC:=(⟨_,by conv=>lhs;reduce⟩:Rd (G f243 [])).1
theorem c243:f243.body.bind (AK f243.ntmps)=some p243:=by kernel_rfl
def p244:PC:=(⟨_,by conv=>lhs;reduce⟩:Rd (G f244 [])).1
theorem c244:f244.body.bind (AK f244.ntmps)=some p244:=by kernel_rfl
def Hs:PC:=(⟨_,by conv=>lhs;reduce⟩:Rd (K f245 0 [])).1
def tF:PC:=(⟨_,by conv=>lhs;reduce⟩:Rd (fun a=>K f245 1 [a])).1 Hs
def p245:PC:=(⟨_,by conv=>lhs;reduce⟩:Rd (fun a=>G f245 [a])).1 tF
theorem c245:f245.body.bind (AK f245.ntmps)=some p245:=by kernel_rfl
def p246:PC:=(⟨_,by conv=>lhs;reduce⟩:Rd (G f246 [])).1
theorem c246:f246.body.bind (AK f246.ntmps)=some p246:=by kernel_rfl
def p247:PC:=(⟨_,by conv=>lhs;reduce⟩:Rd (G f247 [])).1
theorem c247:f247.body.bind (AK f247.ntmps)=some p247:=by kernel_rfl
def p248:PC:=(⟨_,by conv=>lhs;reduce⟩:Rd (G f248 [])).1
theorem c248:f248.body.bind (AK f248.ntmps)=some p248:=by kernel_rfl
def wZ:PC:=(⟨_,by conv=>lhs;reduce⟩:Rd (K f249 0 [])).1
def p249:PC:=(⟨_,by conv=>lhs;reduce⟩:Rd (fun a=>G f249 [a])).1 wZ
theorem c249:f249.body.bind (AK f249.ntmps)=some p249:=by kernel_rfl
def p250:PC:=(⟨_,by conv=>lhs;reduce⟩:Rd (G f250 [])).1
theorem c250:f250.body.bind (AK f250.ntmps)=some p250:=by kernel_rfl
def p251:PC:=(⟨_,by conv=>lhs;reduce⟩:Rd (G f251 [])).1
theorem c251:f251.body.bind (AK f251.ntmps)=some p251:=by kernel_rfl
def rj:PC:=(⟨_,by conv=>lhs;reduce⟩:Rd (K f252 0 [])).1
def p252:PC:=(⟨_,by conv=>lhs;reduce⟩:Rd (fun a=>G f252 [a])).1 rj
theorem c252:f252.body.bind (AK f252.ntmps)=some p252:=by kernel_rfl
def p253:PC:=(⟨_,by conv=>lhs;reduce⟩:Rd (G f253 [])).1
theorem yr:f253.body.bind (AK f253.ntmps)=some p253:=by kernel_rfl
def bU:PC:=(⟨_,by conv=>lhs;reduce⟩:Rd (K f254 0 [])).1
def p254:PC:=(⟨_,by conv=>lhs;reduce⟩:Rd (fun a=>G f254 [a])).1 bU
theorem c254:f254.body.bind (AK f254.ntmps)=some p254:=by kernel_rfl
def bV:PC:=(⟨_,by conv=>lhs;reduce⟩:Rd (K f255 0 [])).1
def p255:PC:=(⟨_,by conv=>lhs;reduce⟩:Rd (fun a=>G f255 [a])).1 bV
theorem c255:f255.body.bind (AK f255.ntmps)=some p255:=by kernel_rfl
def p256:PC:=(⟨_,by conv=>lhs;reduce⟩:Rd (G f256 [])).1
theorem c256:f256.body.bind (AK f256.ntmps)=some p256:=by kernel_rfl
def p257:PC:=(⟨_,by conv=>lhs;reduce⟩:Rd (G f257 [])).1
theorem c257:f257.body.bind (AK f257.ntmps)=some p257:=by kernel_rfl
def bW:PC:=(⟨_,by conv=>lhs;reduce⟩:Rd (K f258 0 [])).1
def p258:PC:=(⟨_,by conv=>lhs;reduce⟩:Rd (fun a=>G f258 [a])).1 bW
theorem c258:f258.body.bind (AK f258.ntmps)=some p258:=by kernel_rfl
def p259:PC:=(⟨_,by conv=>lhs;reduce⟩:Rd (G f259 [])).1
theorem gy:f259.body.bind (AK f259.ntmps)=some p259:=by kernel_rfl
def p260:PC:=(⟨_,by conv=>lhs;reduce⟩:Rd (G f260 [])).1
theorem qe:f260.body.bind (AK f260.ntmps)=some p260:=by kernel_rfl
def p261:PC:=(⟨_,by conv=>lhs;reduce⟩:Rd (G f261 [])).1
theorem c261:f261.body.bind (AK f261.ntmps)=some p261:=by kernel_rfl
def p262:PC:=(⟨_,by conv=>lhs;reduce⟩:Rd (G f262 [])).1
theorem c262:f262.body.bind (AK f262.ntmps)=some p262:=by kernel_rfl
def p263:PC:=(⟨_,by conv=>lhs;reduce⟩:Rd (G f263 [])).1
theorem c263:f263.body.bind (AK f263.ntmps)=some p263:=by kernel_rfl
def p264:PC:=(⟨_,by conv=>lhs;reduce⟩:Rd (G f264 [])).1
theorem yt:f264.body.bind (AK f264.ntmps)=some p264:=by kernel_rfl
def p265:PC:=(⟨_,by conv=>lhs;reduce⟩:Rd (G f265 [])).1
theorem c265:f265.body.bind (AK f265.ntmps)=some p265:=by kernel_rfl
def wc:PC:=(⟨_,by conv=>lhs;reduce⟩:Rd (K f266 0 [])).1
def p266:PC:=(⟨_,by conv=>lhs;reduce⟩:Rd (fun a=>G f266 [a])).1 wc
theorem c266:f266.body.bind (AK f266.ntmps)=some p266:=by kernel_rfl
def tG:PC:=(⟨_,by conv=>lhs;reduce⟩:Rd (K f267 0 [])).1
def p267:PC:=(⟨_,by conv=>lhs;reduce⟩:Rd (fun a=>G f267 [a])).1 tG
theorem c267:f267.body.bind (AK f267.ntmps)=some p267:=by kernel_rfl
def p268:PC:=(⟨_,by conv=>lhs;reduce⟩:Rd (G f268 [])).1
theorem c268:f268.body.bind (AK f268.ntmps)=some p268:=by kernel_rfl
def bX:PC:=(⟨_,by conv=>lhs;reduce⟩:Rd (K f271 0 [])).1
def p271:PC:=(⟨_,by conv=>lhs;reduce⟩:Rd (fun a=>G f271 [a])).1 bX
theorem c271:f271.body.bind (AK f271.ntmps)=some p271:=by kernel_rfl
def p272:PC:=(⟨_,by conv=>lhs;reduce⟩:Rd (G f272 [])).1
theorem c272:f272.body.bind (AK f272.ntmps)=some p272:=by kernel_rfl
def tH:PC:=(⟨_,by conv=>lhs;reduce⟩:Rd (K f273 0 [])).1
def sW:PC:=(⟨_,by conv=>lhs;reduce⟩:Rd (K f273 1 [])).1
def wg:PC:=(⟨_,by conv=>lhs;reduce⟩:Rd (fun a b=>K f273 2 [a,b])).1 tH sW
def p273:PC:=(⟨_,by conv=>lhs;reduce⟩:Rd (fun a=>G f273 [a])).1 wg
theorem c273:f273.body.bind (AK f273.ntmps)=some p273:=by kernel_rfl
def tI:PC:=(⟨_,by conv=>lhs;reduce⟩:Rd (K f274 0 [])).1
def wi:PC:=(⟨_,by conv=>lhs;reduce⟩:Rd (fun a=>K f274 1 [a])).1 tI
def p274:PC:=(⟨_,by conv=>lhs;reduce⟩:Rd (fun a=>G f274 [a])).1 wi
theorem c274:f274.body.bind (AK f274.ntmps)=some p274:=by kernel_rfl
def p275:PC:=(⟨_,by conv=>lhs;reduce⟩:Rd (G f275 [])).1
theorem c275:f275.body.bind (AK f275.ntmps)=some p275:=by kernel_rfl
def p276:PC:=(⟨_,by conv=>lhs;reduce⟩:Rd (G f276 [])).1
theorem c276:f276.body.bind (AK f276.ntmps)=some p276:=by kernel_rfl
def p277:PC:=(⟨_,by conv=>lhs;reduce⟩:Rd (G f277 [])).1
theorem c277:f277.body.bind (AK f277.ntmps)=some p277:=by kernel_rfl
def p278:PC:=(⟨_,by conv=>lhs;reduce⟩:Rd (G f278 [])).1
theorem c278:f278.body.bind (AK f278.ntmps)=some p278:=by kernel_rfl
def p279:PC:=(⟨_,by conv=>lhs;reduce⟩:Rd (G f279 [])).1
theorem c279:f279.body.bind (AK f279.ntmps)=some p279:=by kernel_rfl
def p280:PC:=(⟨_,by conv=>lhs;reduce⟩:Rd (G f280 [])).1
theorem c280:f280.body.bind (AK f280.ntmps)=some p280:=by kernel_rfl
def p281:PC:=(⟨_,by conv=>lhs;reduce⟩:Rd (G f281 [])).1
theorem c281:f281.body.bind (AK f281.ntmps)=some p281:=by kernel_rfl
def p282:PC:=(⟨_,by conv=>lhs;reduce⟩:Rd (G f282 [])).1
theorem c282:f282.body.bind (AK f282.ntmps)=some p282:=by kernel_rfl
def p283:PC:=(⟨_,by conv=>lhs;reduce⟩:Rd (G f283 [])).1
theorem c283:f283.body.bind (AK f283.ntmps)=some p283:=by kernel_rfl
def Xg:PC:=(⟨_,by conv=>lhs;reduce⟩:Rd (K f284 0 [])).1
def p284:PC:=(⟨_,by conv=>lhs;reduce⟩:Rd (fun a=>G f284 [a])).1 Xg
theorem c284:f284.body.bind (AK f284.ntmps)=some p284:=by kernel_rfl
def Xe:PC:=(⟨_,by conv=>lhs;reduce⟩:Rd (K f285 0 [])).1
def p285:PC:=(⟨_,by conv=>lhs;reduce⟩:Rd (fun a=>G f285 [a])).1 Xe
theorem AAB:f285.body.bind (AK f285.ntmps)=some p285:=by kernel_rfl
def p286:PC:=(⟨_,by conv=>lhs;reduce⟩:Rd (G f286 [])).1
theorem c286:f286.body.bind (AK f286.ntmps)=some p286:=by kernel_rfl
def p287:PC:=(⟨_,by conv=>lhs;reduce⟩:Rd (G f287 [])).1
theorem c287:f287.body.bind (AK f287.ntmps)=some p287:=by kernel_rfl
def p288:PC:=(⟨_,by conv=>lhs;reduce⟩:Rd (G f288 [])).1
theorem yu:f288.body.bind (AK f288.ntmps)=some p288:=by kernel_rfl
def p289:PC:=(⟨_,by conv=>lhs;reduce⟩:Rd (G f289 [])).1
theorem c289:f289.body.bind (AK f289.ntmps)=some p289:=by kernel_rfl
def p290:PC:=(⟨_,by conv=>lhs;reduce⟩:Rd (G f290 [])).1
theorem c290:f290.body.bind (AK f290.ntmps)=some p290:=by kernel_rfl
def p291:PC:=(⟨_,by conv=>lhs;reduce⟩:Rd (G f291 [])).1
theorem c291:f291.body.bind (AK f291.ntmps)=some p291:=by kernel_rfl
def p300:PC:=(⟨_,by conv=>lhs;reduce⟩:Rd (G f300 [])).1
def p301:PC:=(⟨_,by conv=>lhs;reduce⟩:Rd (G f301 [])).1
theorem c301:f301.body.bind (AK f301.ntmps)=some p301:=by kernel_rfl
def p302:PC:=(⟨_,by conv=>lhs;reduce⟩:Rd (G f302 [])).1
theorem c302:f302.body.bind (AK f302.ntmps)=some p302:=by kernel_rfl
def p303:PC:=(⟨_,by conv=>lhs;reduce⟩:Rd (G f303 [])).1
theorem yv:f303.body.bind (AK f303.ntmps)=some p303:=by kernel_rfl
def p304:PC:=(⟨_,by conv=>lhs;reduce⟩:Rd (G f304 [])).1
theorem c304:f304.body.bind (AK f304.ntmps)=some p304:=by kernel_rfl
def p305:PC:=(⟨_,by conv=>lhs;reduce⟩:Rd (G f305 [])).1
theorem c305:f305.body.bind (AK f305.ntmps)=some p305:=by kernel_rfl
def p306:PC:=(⟨_,by conv=>lhs;reduce⟩:Rd (G f306 [])).1
theorem c306:f306.body.bind (AK f306.ntmps)=some p306:=by kernel_rfl
def JL:PC:=(⟨_,by conv=>lhs;reduce⟩:Rd (K f307 0 [])).1
def JM:PC:=(⟨_,by conv=>lhs;reduce⟩:Rd (K f307 1 [])).1
def p307:PC:=(⟨_,by conv=>lhs;reduce⟩:Rd (fun a b=>G f307 [a,b])).1 JL JM
theorem qf:f307.body.bind (AK f307.ntmps)=some p307:=by kernel_rfl
def sY:PC:=(⟨_,by conv=>lhs;reduce⟩:Rd (K f308 0 [])).1
def tJ:PC:=(⟨_,by conv=>lhs;reduce⟩:Rd (fun a=>K f308 1 [a])).1 sY
def p308:PC:=(⟨_,by conv=>lhs;reduce⟩:Rd (fun a=>G f308 [a])).1 tJ
theorem c308:f308.body.bind (AK f308.ntmps)=some p308:=by kernel_rfl
def p309:PC:=(⟨_,by conv=>lhs;reduce⟩:Rd (G f309 [])).1
theorem c309:f309.body.bind (AK f309.ntmps)=some p309:=by kernel_rfl
def tK:PC:=(⟨_,by conv=>lhs;reduce⟩:Rd (K f310 0 [])).1
def p310:PC:=(⟨_,by conv=>lhs;reduce⟩:Rd (fun a=>G f310 [a])).1 tK
theorem c310:f310.body.bind (AK f310.ntmps)=some p310:=by kernel_rfl
def wj:PC:=(⟨_,by conv=>lhs;reduce⟩:Rd (K f311 0 [])).1
def p311:PC:=(⟨_,by conv=>lhs;reduce⟩:Rd (fun a=>G f311 [a])).1 wj
theorem AAC:f311.body.bind (AK f311.ntmps)=some p311:=by kernel_rfl
def p317:PC:=(⟨_,by conv=>lhs;reduce⟩:Rd (G f317 [])).1
theorem c317:f317.body.bind (AK f317.ntmps)=some p317:=by kernel_rfl
def ty3:Ty:=⟨1,8,false, .int .i64,[(.int .i64 0)]⟩
def ty4:Ty:=⟨1,1,false, .bool,[(.bool false)]⟩
def ty5:Ty:=⟨1,1,false, .int .u8,[(.int .u8 0)]⟩
def ty9:Ty:=⟨1,16,false, .str,[(.string ByteArray.empty)]⟩
def ty20:Ty:=⟨1,16,false, .ifc true,[.nilIface]⟩
def ty22:Ty:=⟨1,24,false, .slice 128,[(.slice none 0 0)]⟩
def ty23:Ty:=⟨1,24,false, .slice 174,[(.slice none 0 0)]⟩
def ty25:Ty:=⟨2,48,true, .struct [(0,22),(1,23)],[(.slice none 0 0),(.slice none 0 0)]⟩
def ty27:Ty:=⟨2,16,true, .struct [(0,3),(1,3)],[(.int .i64 0),(.int .i64 0)]⟩
def ty28:Ty:=⟨1,24,false, .slice 88,[(.slice none 0 0)]⟩
def ty30:Ty:=⟨2,16,true, .struct [(0,3),(1,3)],[(.int .i64 0),(.int .i64 0)]⟩
def ty32:Ty:=⟨10,96,true, .struct [(0,28),(1,3),(2,30),(4,30),(6,30),(8,30)],[(.slice none 0 0),(.int .i64 0),(.int .i64 0),(.int .i64 0),(.int .i64 0),(.int .i64 0),(.int .i64 0),(.int .i64 0),(.int .i64 0),(.int .i64 0)]⟩
def ty34:Ty:=⟨25,216,true, .struct [(0,27),(2,27),(4,27),(6,27),(8,27),(10,27),(12,3),(13,3),(14,3),(15,32)],[(.int .i64 0),(.int .i64 0),(.int .i64 0),(.int .i64 0),(.int .i64 0),(.int .i64 0),(.int .i64 0),(.int .i64 0),(.int .i64 0),(.int .i64 0),(.int .i64 0),(.int .i64 0),(.int .i64 0),(.int .i64 0),(.int .i64 0),(.slice none 0 0),(.int .i64 0),(.int .i64 0),(.int .i64 0),(.int .i64 0),(.int .i64 0),(.int .i64 0),(.int .i64 0),(.int .i64 0),(.int .i64 0)]⟩
def ty36:Ty:=⟨1,8,false, .other,[.nilFunc]⟩
def ty38:Ty:=⟨1,8,false, .int .i64,[(.int .i64 0)]⟩
def ty43:Ty:=⟨1,24,false, .slice 135,[(.slice none 0 0)]⟩
def ty55:Ty:=⟨1,24,false, .slice 122,[(.slice none 0 0)]⟩
def ty57:Ty:=⟨7,72,true, .struct [(0,55),(1,27),(3,3),(4,3),(5,3),(6,3)],[(.slice none 0 0),(.int .i64 0),(.int .i64 0),(.int .i64 0),(.int .i64 0),(.int .i64 0),(.int .i64 0)]⟩
def ty58:Ty:=⟨1,24,false, .slice 76,[(.slice none 0 0)]⟩
def ty74:Ty:=⟨4,32,true, .struct [(0,27),(2,27)],[(.int .i64 0),(.int .i64 0),(.int .i64 0),(.int .i64 0)]⟩
def ty76:Ty:=⟨11,104,true, .struct [(0,3),(1,74),(5,27),(7,27),(9,3),(10,43)],[(.int .i64 0),(.int .i64 0),(.int .i64 0),(.int .i64 0),(.int .i64 0),(.int .i64 0),(.int .i64 0),(.int .i64 0),(.int .i64 0),(.int .i64 0),(.slice none 0 0)]⟩
def ty82:Ty:=⟨4,32,true, .struct [(0,3),(1,3),(2,3),(3,3)],[(.int .i64 0),(.int .i64 0),(.int .i64 0),(.int .i64 0)]⟩
def ty88:Ty:=⟨7,56,true, .struct [(0,3),(1,3),(2,3),(3,27),(5,3),(6,3)],[(.int .i64 0),(.int .i64 0),(.int .i64 0),(.int .i64 0),(.int .i64 0),(.int .i64 0),(.int .i64 0)]⟩
def ty91:Ty:=⟨1,24,false, .slice 34,[(.slice none 0 0)]⟩
def ty97:Ty:=⟨1,24,false, .slice 5,[(.slice none 0 0)]⟩
def ty98:Ty:=⟨1,8,false, .other,[.nilFunc]⟩
def ty99:Ty:=⟨1,8,false, .ptr 101,[(.pointer none)]⟩
def mZ:Ty:=⟨2,32,true, .struct [(0,97),(1,3)],[(.slice none 0 0),(.int .i64 0)]⟩
def ma:Ty:=⟨1,8,false, .other,[.nilFunc]⟩
def zA:Ty:=⟨4,32,true, .struct [(0,27),(2,27)],[(.int .i64 0),(.int .i64 0),(.int .i64 0),(.int .i64 0)]⟩
def md:Ty:=⟨1,24,false, .slice 3,[(.slice none 0 0)]⟩
def me:Ty:=⟨2,16,true, .struct [(0,3),(1,3)],[(.int .i64 0),(.int .i64 0)]⟩
def mf:Ty:=⟨1,2,false, .int .u16,[(.int .u16 0)]⟩
def mg:Ty:=⟨1,8,false, .other,[.nilFunc]⟩
def mh:Ty:=⟨5,40,true, .struct [(0,3),(1,27),(3,27)],[(.int .i64 0),(.int .i64 0),(.int .i64 0),(.int .i64 0),(.int .i64 0)]⟩
def mi:Ty:=⟨1,8,false, .other,[(.map none)]⟩
def mj:Ty:=⟨4,32,true, .struct [(0,5),(1,3),(2,3),(3,3)],[(.int .u8 0),(.int .i64 0),(.int .i64 0),(.int .i64 0)]⟩
def ml:Ty:=⟨1,8,false, .other,[.nilFunc]⟩
def mm:Ty:=⟨1,8,false, .ptr 251,[(.pointer none)]⟩
def ABu:Ty:=⟨1,8,false, .other,[.nilFunc]⟩
def mo:Ty:=⟨6,48,true, .struct [(0,3),(1,74),(5,3)],[(.int .i64 0),(.int .i64 0),(.int .i64 0),(.int .i64 0),(.int .i64 0),(.int .i64 0)]⟩
def mp:Ty:=⟨1,8,false, .other,[.nilFunc]⟩
def zB:Ty:=⟨1,24,false, .slice 30,[(.slice none 0 0)]⟩
def mr:Ty:=⟨1,8,false, .other,[.nilFunc]⟩
def mv:Ty:=⟨4,32,true, .array 2 27,[(.int .i64 0),(.int .i64 0),(.int .i64 0),(.int .i64 0)]⟩
def mw:Ty:=⟨1,8,false, .other,[.nilFunc]⟩
def my:Ty:=⟨14,112,true, .struct [(0,88),(7,113),(11,3),(12,27)],[(.int .i64 0),(.int .i64 0),(.int .i64 0),(.int .i64 0),(.int .i64 0),(.int .i64 0),(.int .i64 0),(.int .i64 0),(.int .i64 0),(.int .i64 0),(.int .i64 0),(.int .i64 0),(.int .i64 0),(.int .i64 0)]⟩
def mz:Ty:=⟨2,16,true, .struct [(0,3),(1,3)],[(.int .i64 0),(.int .i64 0)]⟩
def m5:Ty:=⟨1,8,false, .other,[.nilFunc]⟩
def m6:Ty:=⟨1,24,false, .slice 38,[(.slice none 0 0)]⟩
def m7:Ty:=⟨1,8,false, .int .u64,[(.int .u64 0)]⟩
def m8:Ty:=⟨1,8,false, .ptr 27,[(.pointer none)]⟩
def m9:Ty:=⟨6,48,true, .array 6 226,[(.pointer none),(.pointer none),(.pointer none),(.pointer none),(.pointer none),(.pointer none)]⟩
def nA:Ty:=⟨1,8,false, .ptr 34,[(.pointer none)]⟩
def nC:Ty:=⟨1,8,false, .other,[.nilFunc]⟩
def nD:Ty:=⟨1,24,false, .slice 27,[(.slice none 0 0)]⟩
def nE:Ty:=⟨1,8,false, .other,[.nilFunc]⟩
def nF:Ty:=⟨1,8,false, .other,[.nilFunc]⟩
def nG:Ty:=⟨9,120,true, .struct [(0,25),(2,57)],[(.slice none 0 0),(.slice none 0 0),(.slice none 0 0),(.int .i64 0),(.int .i64 0),(.int .i64 0),(.int .i64 0),(.int .i64 0),(.int .i64 0)]⟩
def nH:Ty:=⟨1,24,false, .slice 259,[(.slice none 0 0)]⟩
def nI:Ty:=⟨3,24,true, .struct [(0,3),(1,27)],[(.int .i64 0),(.int .i64 0),(.int .i64 0)]⟩
def nJ:Ty:=⟨1,8,false, .other,[.nilFunc]⟩
def nK:Ty:=⟨1,8,false, .other,[.nilFunc]⟩
def nL:Ty:=⟨1,24,false, .slice 197,[(.slice none 0 0)]⟩
def nM:Ty:=⟨1,8,false, .other,[.nilFunc]⟩
def nN:Ty:=⟨1,8,false, .other,[.nilFunc]⟩
def nP:Ty:=⟨1,8,true, .struct [(0,38)],[(.int .i64 0)]⟩
def nQ:Ty:=⟨1,8,false, .other,[.nilFunc]⟩
def nR:Ty:=⟨1,8,false, .ptr 284,[(.pointer none)]⟩
def nS:Ty:=⟨8,64,true, .array 8 278,[.nilFunc, .nilFunc, .nilFunc, .nilFunc, .nilFunc, .nilFunc, .nilFunc, .nilFunc]⟩
def nT:Ty:=⟨10,96,true, .struct [(0,32)],[(.slice none 0 0),(.int .i64 0),(.int .i64 0),(.int .i64 0),(.int .i64 0),(.int .i64 0),(.int .i64 0),(.int .i64 0),(.int .i64 0),(.int .i64 0)]⟩
def nU:Ty:=⟨1,8,false, .other,[.nilFunc]⟩
def nV:Ty:=⟨2,16,true, .struct [(0,3),(1,98)],[(.int .i64 0), .nilFunc]⟩
def nW:Ty:=⟨1,24,false, .slice 297,[(.slice none 0 0)]⟩
def nY:Ty:=⟨1,8,false, .other,[.nilFunc]⟩
def nZ:Ty:=⟨1,8,false, .ptr 88,[(.pointer none)]⟩
def ABv:Ty:=⟨16,128,true, .array 8 27,[(.int .i64 0),(.int .i64 0),(.int .i64 0),(.int .i64 0),(.int .i64 0),(.int .i64 0),(.int .i64 0),(.int .i64 0),(.int .i64 0),(.int .i64 0),(.int .i64 0),(.int .i64 0),(.int .i64 0),(.int .i64 0),(.int .i64 0),(.int .i64 0)]⟩
def ng:Ty:=⟨2,16,true, .array 2 3,[(.int .i64 0),(.int .i64 0)]⟩
def ABw:Ty:=⟨1,8,false, .int .i64,[(.int .i64 0)]⟩
def ni:Ty:=⟨1,4,false, .int .u32,[(.int .u32 0)]⟩
def nj:Ty:=⟨1,8,false, .int .u64,[(.int .u64 0)]⟩
def nk:Ty:=⟨1,8,false, .int .u64,[(.int .u64 0)]⟩
def nl:Ty:=⟨1,8,false, .ptr 3,[(.pointer none)]⟩
def np:Ty:=⟨1,16,false, .ifc false,[.nilIface]⟩
def nq:Ty:=⟨1,8,false, .ptr 348,[(.pointer none)]⟩
def tyL:List (Nat × Ty):=[(3,ty3),(4,ty4),(5,ty5),(9,ty9),(20,ty20),(22,ty22),(23,ty23),(25,ty25),(27,ty27),(28,ty28),(30,ty30),(32,ty32),(34,ty34),(36,ty36),(38,ty38),(43,ty43),(55,ty55),(57,ty57),(58,ty58),(74,ty74),(76,ty76),(82,ty82),(88,ty88),(91,ty91),(97,ty97),(98,ty98),(99,ty99),(101,mZ),(105,ma),(113,zA),(119,md),(122,me),(125,mf),(126,mg),(128,mh),(133,mi),(135,mj),(149,ml),(162,mm),(171,ABu),(174,mo),(177,mp),(178,zB),(180,mr),(184,mv),(187,mw),(192,my),(197,mz),(204,m5),(207,m6),(222,m7),(226,m8),(227,m9),(229,nA),(238,nC),(239,nD),(241,nE),(247,nF),(251,nG),(257,nH),(259,nI),(264,nJ),(268,nK),(270,nL),(272,nM),(275,nN),(277,nP),(278,nQ),(280,nR),(281,nS),(284,nT),(285,nU),(297,nV),(299,nW),(309,nY),(310,nZ),(320,ABv),(321,ng),(332,ABw),(339,ni),(341,nj),(348,nk),(352,nl),(355,np),(356,nq)]
def eqL:List (Nat × List CK):=[(27,[.int, .int]),(30,[.int, .int]),(74,[.int, .int, .int, .int]),(82,[.int, .int, .int, .int]),(88,[.int, .int, .int, .int, .int, .int, .int]),(113,[.int, .int, .int, .int]),(122,[.int, .int]),(128,[.int, .int, .int, .int, .int]),(135,[.int, .int, .int, .int]),(174,[.int, .int, .int, .int, .int, .int]),(192,[.int, .int, .int, .int, .int, .int, .int, .int, .int, .int, .int, .int, .int, .int]),(197,[.int, .int]),(259,[.int, .int, .int]),(277,[.int])]
def tys:Tys:=lk tyL
def eqs:Eqs:=lk eqL
theorem gok:GOk prog tys:=jn (by kernel_rfl)
theorem eok:EB prog eqs:=dT (by kernel_rfl)
theorem mixed:prog.follows .mixedOrders=true:=by kernel_rfl
@[simp] theorem g3:tys 3=some ⟨1,8,false, .int .i64,[(.int .i64 0)]⟩:=AF rfl
@[simp] theorem g4:tys 4=some ⟨1,1,false, .bool,[(.bool false)]⟩:=AF rfl
@[simp] theorem g5:tys 5=some ⟨1,1,false, .int .u8,[(.int .u8 0)]⟩:=AF rfl
@[simp] theorem g9:tys 9=some ⟨1,16,false, .str,[(.string ByteArray.empty)]⟩:=AF rfl
@[simp] theorem g20:tys 20=some ⟨1,16,false, .ifc true,[.nilIface]⟩:=AF rfl
@[simp] theorem g22:tys 22=some ⟨1,24,false, .slice 128,[(.slice none 0 0)]⟩:=AF rfl
@[simp] theorem g23:tys 23=some ⟨1,24,false, .slice 174,[(.slice none 0 0)]⟩:=AF rfl
@[simp] theorem g25:tys 25=some ⟨2,48,true, .struct [(0,22),(1,23)],[(.slice none 0 0),(.slice none 0 0)]⟩:=AF rfl
@[simp] theorem g27:tys 27=some ⟨2,16,true, .struct [(0,3),(1,3)],[(.int .i64 0),(.int .i64 0)]⟩:=AF rfl
@[simp] theorem g28:tys 28=some ⟨1,24,false, .slice 88,[(.slice none 0 0)]⟩:=AF rfl
@[simp] theorem g30:tys 30=some ⟨2,16,true, .struct [(0,3),(1,3)],[(.int .i64 0),(.int .i64 0)]⟩:=AF rfl
@[simp] theorem g32:tys 32=some ⟨10,96,true, .struct [(0,28),(1,3),(2,30),(4,30),(6,30),(8,30)],[(.slice none 0 0),(.int .i64 0),(.int .i64 0),(.int .i64 0),(.int .i64 0),(.int .i64 0),(.int .i64 0),(.int .i64 0),(.int .i64 0),(.int .i64 0)]⟩:=AF rfl
@[simp] theorem g34:tys 34=some ⟨25,216,true, .struct [(0,27),(2,27),(4,27),(6,27),(8,27),(10,27),(12,3),(13,3),(14,3),(15,32)],[(.int .i64 0),(.int .i64 0),(.int .i64 0),(.int .i64 0),(.int .i64 0),(.int .i64 0),(.int .i64 0),(.int .i64 0),(.int .i64 0),(.int .i64 0),(.int .i64 0),(.int .i64 0),(.int .i64 0),(.int .i64 0),(.int .i64 0),(.slice none 0 0),(.int .i64 0),(.int .i64 0),(.int .i64 0),(.int .i64 0),(.int .i64 0),(.int .i64 0),(.int .i64 0),(.int .i64 0),(.int .i64 0)]⟩:=AF rfl
@[simp] theorem g36:tys 36=some ⟨1,8,false, .other,[.nilFunc]⟩:=AF rfl
@[simp] theorem g38:tys 38=some ⟨1,8,false, .int .i64,[(.int .i64 0)]⟩:=AF rfl
@[simp] theorem g43:tys 43=some ⟨1,24,false, .slice 135,[(.slice none 0 0)]⟩:=AF rfl
@[simp] theorem g55:tys 55=some ⟨1,24,false, .slice 122,[(.slice none 0 0)]⟩:=AF rfl
@[simp] theorem g57:tys 57=some ⟨7,72,true, .struct [(0,55),(1,27),(3,3),(4,3),(5,3),(6,3)],[(.slice none 0 0),(.int .i64 0),(.int .i64 0),(.int .i64 0),(.int .i64 0),(.int .i64 0),(.int .i64 0)]⟩:=AF rfl
@[simp] theorem g58:tys 58=some ⟨1,24,false, .slice 76,[(.slice none 0 0)]⟩:=AF rfl
@[simp] theorem g74:tys 74=some ⟨4,32,true, .struct [(0,27),(2,27)],[(.int .i64 0),(.int .i64 0),(.int .i64 0),(.int .i64 0)]⟩:=AF rfl
@[simp] theorem g76:tys 76=some ⟨11,104,true, .struct [(0,3),(1,74),(5,27),(7,27),(9,3),(10,43)],[(.int .i64 0),(.int .i64 0),(.int .i64 0),(.int .i64 0),(.int .i64 0),(.int .i64 0),(.int .i64 0),(.int .i64 0),(.int .i64 0),(.int .i64 0),(.slice none 0 0)]⟩:=AF rfl
@[simp] theorem g82:tys 82=some ⟨4,32,true, .struct [(0,3),(1,3),(2,3),(3,3)],[(.int .i64 0),(.int .i64 0),(.int .i64 0),(.int .i64 0)]⟩:=AF rfl
@[simp] theorem g88:tys 88=some ⟨7,56,true, .struct [(0,3),(1,3),(2,3),(3,27),(5,3),(6,3)],[(.int .i64 0),(.int .i64 0),(.int .i64 0),(.int .i64 0),(.int .i64 0),(.int .i64 0),(.int .i64 0)]⟩:=AF rfl
@[simp] theorem g91:tys 91=some ⟨1,24,false, .slice 34,[(.slice none 0 0)]⟩:=AF rfl
@[simp] theorem g97:tys 97=some ⟨1,24,false, .slice 5,[(.slice none 0 0)]⟩:=AF rfl
@[simp] theorem g98:tys 98=some ⟨1,8,false, .other,[.nilFunc]⟩:=AF rfl
@[simp] theorem g99:tys 99=some ⟨1,8,false, .ptr 101,[(.pointer none)]⟩:=AF rfl
@[simp] theorem g101:tys 101=some ⟨2,32,true, .struct [(0,97),(1,3)],[(.slice none 0 0),(.int .i64 0)]⟩:=AF rfl
@[simp] theorem g105:tys 105=some ⟨1,8,false, .other,[.nilFunc]⟩:=AF rfl
@[simp] theorem g113:tys 113=some ⟨4,32,true, .struct [(0,27),(2,27)],[(.int .i64 0),(.int .i64 0),(.int .i64 0),(.int .i64 0)]⟩:=AF rfl
@[simp] theorem g119:tys 119=some ⟨1,24,false, .slice 3,[(.slice none 0 0)]⟩:=AF rfl
@[simp] theorem g122:tys 122=some ⟨2,16,true, .struct [(0,3),(1,3)],[(.int .i64 0),(.int .i64 0)]⟩:=AF rfl
@[simp] theorem g125:tys 125=some ⟨1,2,false, .int .u16,[(.int .u16 0)]⟩:=AF rfl
@[simp] theorem g126:tys 126=some ⟨1,8,false, .other,[.nilFunc]⟩:=AF rfl
@[simp] theorem g128:tys 128=some ⟨5,40,true, .struct [(0,3),(1,27),(3,27)],[(.int .i64 0),(.int .i64 0),(.int .i64 0),(.int .i64 0),(.int .i64 0)]⟩:=AF rfl
@[simp] theorem g133:tys 133=some ⟨1,8,false, .other,[(.map none)]⟩:=AF rfl
@[simp] theorem g135:tys 135=some ⟨4,32,true, .struct [(0,5),(1,3),(2,3),(3,3)],[(.int .u8 0),(.int .i64 0),(.int .i64 0),(.int .i64 0)]⟩:=AF rfl
@[simp] theorem g149:tys 149=some ⟨1,8,false, .other,[.nilFunc]⟩:=AF rfl
@[simp] theorem g162:tys 162=some ⟨1,8,false, .ptr 251,[(.pointer none)]⟩:=AF rfl
@[simp] theorem g171:tys 171=some ⟨1,8,false, .other,[.nilFunc]⟩:=AF rfl
@[simp] theorem g174:tys 174=some ⟨6,48,true, .struct [(0,3),(1,74),(5,3)],[(.int .i64 0),(.int .i64 0),(.int .i64 0),(.int .i64 0),(.int .i64 0),(.int .i64 0)]⟩:=AF rfl
@[simp] theorem g177:tys 177=some ⟨1,8,false, .other,[.nilFunc]⟩:=AF rfl
@[simp] theorem g178:tys 178=some ⟨1,24,false, .slice 30,[(.slice none 0 0)]⟩:=AF rfl
@[simp] theorem g180:tys 180=some ⟨1,8,false, .other,[.nilFunc]⟩:=AF rfl
@[simp] theorem g184:tys 184=some ⟨4,32,true, .array 2 27,[(.int .i64 0),(.int .i64 0),(.int .i64 0),(.int .i64 0)]⟩:=AF rfl
@[simp] theorem g187:tys 187=some ⟨1,8,false, .other,[.nilFunc]⟩:=AF rfl
@[simp] theorem g192:tys 192=some ⟨14,112,true, .struct [(0,88),(7,113),(11,3),(12,27)],[(.int .i64 0),(.int .i64 0),(.int .i64 0),(.int .i64 0),(.int .i64 0),(.int .i64 0),(.int .i64 0),(.int .i64 0),(.int .i64 0),(.int .i64 0),(.int .i64 0),(.int .i64 0),(.int .i64 0),(.int .i64 0)]⟩:=AF rfl
@[simp] theorem g197:tys 197=some ⟨2,16,true, .struct [(0,3),(1,3)],[(.int .i64 0),(.int .i64 0)]⟩:=AF rfl
@[simp] theorem g204:tys 204=some ⟨1,8,false, .other,[.nilFunc]⟩:=AF rfl
@[simp] theorem g207:tys 207=some ⟨1,24,false, .slice 38,[(.slice none 0 0)]⟩:=AF rfl
@[simp] theorem g222:tys 222=some ⟨1,8,false, .int .u64,[(.int .u64 0)]⟩:=AF rfl
@[simp] theorem g226:tys 226=some ⟨1,8,false, .ptr 27,[(.pointer none)]⟩:=AF rfl
@[simp] theorem g227:tys 227=some ⟨6,48,true, .array 6 226,[(.pointer none),(.pointer none),(.pointer none),(.pointer none),(.pointer none),(.pointer none)]⟩:=AF rfl
@[simp] theorem g229:tys 229=some ⟨1,8,false, .ptr 34,[(.pointer none)]⟩:=AF rfl
@[simp] theorem g238:tys 238=some ⟨1,8,false, .other,[.nilFunc]⟩:=AF rfl
@[simp] theorem g239:tys 239=some ⟨1,24,false, .slice 27,[(.slice none 0 0)]⟩:=AF rfl
@[simp] theorem g241:tys 241=some ⟨1,8,false, .other,[.nilFunc]⟩:=AF rfl
@[simp] theorem g247:tys 247=some ⟨1,8,false, .other,[.nilFunc]⟩:=AF rfl
@[simp] theorem g251:tys 251=some ⟨9,120,true, .struct [(0,25),(2,57)],[(.slice none 0 0),(.slice none 0 0),(.slice none 0 0),(.int .i64 0),(.int .i64 0),(.int .i64 0),(.int .i64 0),(.int .i64 0),(.int .i64 0)]⟩:=AF rfl
@[simp] theorem g257:tys 257=some ⟨1,24,false, .slice 259,[(.slice none 0 0)]⟩:=AF rfl
@[simp] theorem g259:tys 259=some ⟨3,24,true, .struct [(0,3),(1,27)],[(.int .i64 0),(.int .i64 0),(.int .i64 0)]⟩:=AF rfl
@[simp] theorem g264:tys 264=some ⟨1,8,false, .other,[.nilFunc]⟩:=AF rfl
@[simp] theorem g268:tys 268=some ⟨1,8,false, .other,[.nilFunc]⟩:=AF rfl
@[simp] theorem g270:tys 270=some ⟨1,24,false, .slice 197,[(.slice none 0 0)]⟩:=AF rfl
@[simp] theorem g272:tys 272=some ⟨1,8,false, .other,[.nilFunc]⟩:=AF rfl
@[simp] theorem g275:tys 275=some ⟨1,8,false, .other,[.nilFunc]⟩:=AF rfl
@[simp] theorem g277:tys 277=some ⟨1,8,true, .struct [(0,38)],[(.int .i64 0)]⟩:=AF rfl
@[simp] theorem g278:tys 278=some ⟨1,8,false, .other,[.nilFunc]⟩:=AF rfl
@[simp] theorem g280:tys 280=some ⟨1,8,false, .ptr 284,[(.pointer none)]⟩:=AF rfl
@[simp] theorem g281:tys 281=some ⟨8,64,true, .array 8 278,[.nilFunc, .nilFunc, .nilFunc, .nilFunc, .nilFunc, .nilFunc, .nilFunc, .nilFunc]⟩:=AF rfl
@[simp] theorem g284:tys 284=some ⟨10,96,true, .struct [(0,32)],[(.slice none 0 0),(.int .i64 0),(.int .i64 0),(.int .i64 0),(.int .i64 0),(.int .i64 0),(.int .i64 0),(.int .i64 0),(.int .i64 0),(.int .i64 0)]⟩:=AF rfl
@[simp] theorem g285:tys 285=some ⟨1,8,false, .other,[.nilFunc]⟩:=AF rfl
@[simp] theorem g297:tys 297=some ⟨2,16,true, .struct [(0,3),(1,98)],[(.int .i64 0), .nilFunc]⟩:=AF rfl
@[simp] theorem g299:tys 299=some ⟨1,24,false, .slice 297,[(.slice none 0 0)]⟩:=AF rfl
@[simp] theorem g309:tys 309=some ⟨1,8,false, .other,[.nilFunc]⟩:=AF rfl
@[simp] theorem g310:tys 310=some ⟨1,8,false, .ptr 88,[(.pointer none)]⟩:=AF rfl
@[simp] theorem g320:tys 320=some ⟨16,128,true, .array 8 27,[(.int .i64 0),(.int .i64 0),(.int .i64 0),(.int .i64 0),(.int .i64 0),(.int .i64 0),(.int .i64 0),(.int .i64 0),(.int .i64 0),(.int .i64 0),(.int .i64 0),(.int .i64 0),(.int .i64 0),(.int .i64 0),(.int .i64 0),(.int .i64 0)]⟩:=AF rfl
@[simp] theorem g321:tys 321=some ⟨2,16,true, .array 2 3,[(.int .i64 0),(.int .i64 0)]⟩:=AF rfl
@[simp] theorem g332:tys 332=some ⟨1,8,false, .int .i64,[(.int .i64 0)]⟩:=AF rfl
@[simp] theorem g339:tys 339=some ⟨1,4,false, .int .u32,[(.int .u32 0)]⟩:=AF rfl
@[simp] theorem g341:tys 341=some ⟨1,8,false, .int .u64,[(.int .u64 0)]⟩:=AF rfl
@[simp] theorem g348:tys 348=some ⟨1,8,false, .int .u64,[(.int .u64 0)]⟩:=AF rfl
@[simp] theorem g352:tys 352=some ⟨1,8,false, .ptr 3,[(.pointer none)]⟩:=AF rfl
@[simp] theorem g355:tys 355=some ⟨1,16,false, .ifc false,[.nilIface]⟩:=AF rfl
@[simp] theorem g356:tys 356=some ⟨1,8,false, .ptr 348,[(.pointer none)]⟩:=AF rfl
@[simp] theorem e27:eqs 27=some [.int, .int]:=AF rfl
@[simp] theorem e30:eqs 30=some [.int, .int]:=AF rfl
@[simp] theorem e74:eqs 74=some [.int, .int, .int, .int]:=AF rfl
@[simp] theorem e82:eqs 82=some [.int, .int, .int, .int]:=AF rfl
@[simp] theorem e88:eqs 88=some [.int, .int, .int, .int, .int, .int, .int]:=AF rfl
@[simp] theorem e113:eqs 113=some [.int, .int, .int, .int]:=AF rfl
@[simp] theorem e122:eqs 122=some [.int, .int]:=AF rfl
@[simp] theorem e128:eqs 128=some [.int, .int, .int, .int, .int]:=AF rfl
@[simp] theorem e135:eqs 135=some [.int, .int, .int, .int]:=AF rfl
@[simp] theorem e174:eqs 174=some [.int, .int, .int, .int, .int, .int]:=AF rfl
@[simp] theorem e192:eqs 192=some [.int, .int, .int, .int, .int, .int, .int, .int, .int, .int, .int, .int, .int, .int]:=AF rfl
@[simp] theorem e197:eqs 197=some [.int, .int]:=AF rfl
@[simp] theorem e259:eqs 259=some [.int, .int, .int]:=AF rfl
@[simp] theorem e277:eqs 277=some [.int]:=AF rfl
theorem CB {f:FuncId} {fn:Func} {p:PC} {args:List V} {r:V} {H1:List (Nat × List V)} (hf:prog.funcs[f]?= some fn) (hc:fn.body.bind (AK fn.ntmps)=some p) (h:∀ E:Ent,(∀ i,¬ E.stab i)->PW prog tys eqs E p (dL tys fn r H1) ⟨Dn 0 args,fun _=>none,0⟩) (hn:args.length<=fn.ntmps:=by exact Nat.le_of_ble_eq_true rfl) (hname:(fn.name == "runtime.NumGoroutine")=false:=by rfl) (hcl:∀ v∈args,I8 v:=by simp) (hri:LD r H1:=by simp [LD]):Ct prog f args r H1:=
 Ct.by gok eok mixed hf hc hname hn hcl hri h
theorem CM {f:FuncId} {fn:Func} {p:PC} {args:List V} {Hin:List (Nat × List V)} {ks:List Nat} {res:Res} {H1:List (Nat × List V)} (N:Nat) (hf:prog.funcs[f]?= some fn) (hc:fn.body.bind (AK fn.ntmps)=some p) (h:∀ E:Ent,(∀ i,E.stab i↔i∈ks)->E.nt=fn.ntmps/\E.rq->PW prog tys eqs E p (Mh tys fn ks res H1) ⟨Dn 0 args,lk Hin,N⟩) (hn:args.length<=fn.ntmps:=by exact Nat.le_of_ble_eq_true rfl) (hname:(fn.name == "runtime.NumGoroutine")=false:=by rfl) (hcl:∀ v∈args,A2 (· < N) AR v:=by simp) (hids:A7 N Hin:=by simp) (hks:∀ i∈ks,i < N:=by simp) (hri:LD res.v H1:=by simp [LD]):Cm prog f args (lk Hin) ks res (lk H1):=
 Cm.by gok eok mixed N hf hc hname hn hcl (A7.at hids) hks hri h
abbrev vi (n:Int):V:= .d (.lit (.int .i64 n))
abbrev vb (b:Bool):V:= .d (.lit (.bool b))
abbrev di (n:Int):D:= .lit (.int .i64 n)
abbrev vsp (a b:Int):V:= .agg [vi a,vi b]
abbrev An (l:List (Int × Int)):D:= .sl 2 (l.map fun s=>[di s.1,di s.2])
def okS (s:Int × Int):Bool:=decide (s.1<=s.2)&&decide (-1099511627776<=s.1)&&decide (s.2<=1099511627776)
def Co (l:List (Int × Int)):Bool:=l.all okS
theorem Qp {l:List (Int × Int)} {i:Nat} {s:Int × Int} (hs:l[i]?= some s):Co (l.take (i+1))=(Co (l.take i)&&okS s):=by
 simp [Co,List.take_add_one,hs]
theorem EF {l:List (Int × Int)} {i:Nat} {s:Int × Int} (hs:l[i]?= some s) (h:okS s=false):Co l=false:=by
 unfold Co;rw [List.all_eq_false];exact ⟨s,List.mem_of_getElem? hs,by simp [h]⟩
theorem YZ (l:List (Int × Int)) (hl:l.length<=1000000):Ct prog 175 [.d (An l)] (vb (Co l)) []:=by
 refine Ct.by gok eok mixed func175 c175 rfl ?_ ?_ ?_ fun E hE=>?_
 . simp [ntmps175]
 . simp
 . simp [LD]
 simp [p175];refine Al (α:=Nat) (fun i=>⟨AO [(5, .d (An l)),(6,vi l.length),(7,vi i)],lk [],0⟩) (fun i=>i<=l.length/\Co (l.take i)=true) (fun i=>l.length - i) 0 ?_ ?_ ?_
 . simp [Co]
 . exact WK hE (fun _=>none)
 . intro i ⟨hi,hf⟩
   simp [bI];refine Bh (fun h=>?_) (fun h=>?_)
   . simp at h
     obtain ⟨s,hs⟩:∃ s,l[i]?= some s:=⟨l[i],by simp [h]⟩
     have hz:IntKind.wrap .i64 ((i:Int)+1)=(i:Int)+1:=AD (by omega) (by omega)
     have hbad:okS s=false->AB tys f85 (vb (Co l)) [] ⟨AO [(2,vb false)],lk [],0⟩:=fun hh=>by
       refine ⟨[vb false],fun _=>none,?_⟩;simp [EF hs hh]
     by_cases h1:s.2 < s.1
     . have hh:okS s=false:=by simp [okS];omega
       simp [An,hs,AA,h1];refine ⟨[vb false],fun _=>none,?_⟩;simp [results175,EF hs hh]
     . by_cases h2:s.1 < -1099511627776
       . have hh:okS s=false:=by simp [okS];omega
         simp [An,hs,AA,h1,h2];refine ⟨[vb false],fun _=>none,?_⟩;simp [results175,EF hs hh]
       . by_cases h3:1099511627776 < s.2
         . have hh:okS s=false:=by simp [okS];omega
           simp [An,hs,AA,h1,h2,h3];refine ⟨[vb false],fun _=>none,?_⟩;simp [results175,EF hs hh]
         . have hh:okS s=true:=by simp [okS];omega
           simp [An,hs,AA,h1,h2,h3,hz];refine ⟨i+1,⟨by omega,?_⟩,by omega,?_⟩
           . rw [Qp hs,hf,hh];rfl
           . exact WK hE (fun _=>none)
   . simp at h
     have hil:i=l.length:=by omega
     subst hil;rw [List.take_length] at hf;simp;refine ⟨[vb true],fun _=>none,?_⟩;simp [results175,hf]
theorem OM (s:Int × Int):Ct prog 105 [vsp s.1 s.2] (vi (if okS s then 0 else 10)) []:=by
 refine Ct.by gok eok mixed func105 c105 rfl ?_ ?_ ?_ fun E hE=>?_
 . simp [ntmps105]
 . simp
 . simp [LD]
 simp [p105,AM,AA];refine AU.mk _ _ _ (YZ [s] (by simp)) ?_ ?_ ?_ ?_
 . simp [Bk]
 . simp
 . right;simp
 by_cases h:okS s=true
 . simp [Co,h]
   refine ⟨[vi 0],fun _=>none,?_⟩;simp [results105]
 . simp [Co,h]
   refine ⟨[vi 10],fun _=>none,?_⟩;simp [results105]
abbrev vse (s:(Int × Int) × Int):V:= .tup [vsp s.1.1 s.1.2,vi s.2]
def JH (s:Int × Int):(Int × Int) × Int:=if s.1 < -1099511627776\/1099511627776 < s.2 then ((0,0),11) else (s,0)
theorem pp (s:Int × Int):Ct prog 277 [vsp s.1 s.2] (vse (JH s)) []:=by
 refine Ct.by gok eok mixed func277 c277 rfl ?_ ?_ ?_ fun E hE=>?_
 . simp [ntmps277]
 . simp
 . simp [LD]
 by_cases h1:s.1 < -1099511627776
 . simp [p277,h1,AA]
   apply RZ;simp [results277,JH,h1]
 . by_cases h2:1099511627776 < s.2
   . simp [p277,h1,h2,AA]
     apply RZ;simp [results277,JH,h1,h2]
   . simp [p277,h1,h2,AA]
     apply RZ;simp [results277,JH,h1,h2]
theorem CT {s:Int × Int}:okS s=true↔s.1<=s.2/\ -1099511627776<=s.1/\s.2<=1099511627776:=by simp [okS,and_assoc]
theorem Xb (n lo hi:Int):Ct prog 226 [vi n,vi lo,vi hi] (vb (decide (lo<=n)&&decide (n<=hi))) []:=by
 refine Ct.by gok eok mixed func226 c226 rfl ?_ ?_ ?_ fun E hE=>?_
 . simp [ntmps226]
 . simp
 . simp [LD]
 by_cases h1:lo<=n
 . simp [p226,h1]
   apply RZ;simp [results226]
 . simp [p226,h1]
   apply RZ;simp [results226]
theorem rt (s:Int × Int):Ct prog 212 [vsp s.1 s.2] (vb (okS s)) []:=by
 refine Ct.by gok eok mixed func212 c212 rfl ?_ ?_ ?_ fun E hE=>?_
 . simp [ntmps212]
 . simp
 . simp [LD]
 by_cases h1:s.1<=s.2
 . simp [p212,h1]
   refine AU.mk _ _ _ (Xb s.1 (-1099511627776) 1099511627776) ?_ ?_ ?_ ?_
   . simp
   . simp
   . right;simp
   by_cases h2: -1099511627776<=s.1
   . have h3:s.1<=1099511627776\/¬ s.1<=1099511627776:=Decidable.em _
     rcases h3 with h3 | h3
     . simp [h2,h3]
       refine AU.mk _ _ _ (Xb s.2 (-1099511627776) 1099511627776) ?_ ?_ ?_ ?_
       . simp
       . simp
       . right;simp
       simp;apply RZ;have h4: -1099511627776<=s.2:=by omega
       simp [results212,okS,h1,h2,h4]
     . simp [h2,h3]
       apply RZ;have h4:¬ s.2<=1099511627776:=by omega
       simp [results212,okS,h1,h2,h4]
   . simp [h2]
     apply RZ;simp [results212,okS,h1,h2]
 . simp [p212,h1]
   apply RZ;simp [results212,okS,h1]
theorem yS (s:Int × Int):Ct prog 140 [vsp s.1 s.2] (vi (if okS s then 0 else 10)) []:=by
 refine Ct.by gok eok mixed func140 c140 rfl ?_ ?_ ?_ fun E hE=>?_
 . simp [ntmps140]
 . simp
 . simp [LD]
 simp [p140];refine AU.mk _ _ _ (rt s) ?_ ?_ ?_ ?_
 . simp
 . simp
 . right;simp
 by_cases h:okS s=true
 . simp [h]
   apply RZ;simp [results140]
 . simp [h]
   apply RZ;simp [results140]
theorem AAQ (s:Int × Int):Ct prog 279 [vi s.1,vi s.2] (vse (JH s)) []:=by
 refine Ct.by gok eok mixed func279 c279 rfl ?_ ?_ ?_ fun E hE=>?_
 . simp [ntmps279]
 . simp
 . simp [LD]
 by_cases h1:s.1 < -1099511627776
 . simp [p279,h1,AA]
   apply RZ;simp [results279,JH,h1]
 . by_cases h2:1099511627776 < s.2
   . simp [p279,h1,h2,AA]
     apply RZ;simp [results279,JH,h1,h2]
   . simp [p279,h1,h2,AA]
     apply RZ;simp [results279,JH,h1,h2]
theorem iv (x:Int) (hx: -4611686018427387904<=x/\x<=4611686018427387904):Ct prog 306 [vi x] (.d (.lit (.int .u64 (max x (-x))))) []:=by
 refine Ct.by gok eok mixed func306 c306 rfl ?_ ?_ ?_ fun E hE=>?_
 . simp [ntmps306]
 . simp
 . simp [LD]
 have e1:IntKind.wrap .i64 (-x)= -x:=AD (by omega) (by omega);have e2:IntKind.wrap .u64 (max x (-x))=max x (-x):=Ay (by omega) (by omega);simp [p306,e1,e2];apply RZ;simp [results306]
theorem yM (x:Int) (hx: -4611686018427387904<=x/\x<=4611686018427387904):Ct prog 309 [vi x] (vi (max x (-x))) []:=by
 refine Ct.by gok eok mixed func309 c309 rfl ?_ ?_ ?_ fun E hE=>?_
 . simp [ntmps309]
 . simp
 . simp [LD]
 have e1:IntKind.wrap .i64 (-x)= -x:=AD (by omega) (by omega);simp [p309,e1];apply RZ;simp [results309]
def Xa (o s:Int × Int):Int × Int:=(min o.1 s.1,max o.2 s.2)
def Bu (s:Int × Int) (l:List (Int × Int)):Int × Int:=l.foldl Xa s
theorem Hw {s0:Int × Int} {l:List (Int × Int)} {i:Nat} {s:Int × Int} (hs:l[i]?= some s):Bu s0 (l.take (i+1))=Xa (Bu s0 (l.take i)) s:=by
 simp [Bu,List.take_add_one,hs]
theorem Wj (s0:Int × Int) (l:List (Int × Int)) (hl:l.length<=1000000):Ct prog 255 [.d (An (s0::l))] (vsp (Bu s0 l).1 (Bu s0 l).2) []:=by
 refine Ct.by gok eok mixed func255 c255 rfl ?_ ?_ ?_ fun E hE=>?_
 . simp [ntmps255]
 . simp
 . simp [LD]
 have h0:(1:Int)<=(l.length:Int)+1:=by omega
 simp [p255,AA,h0];refine Al (α:=Nat) (fun i=>⟨AO [(2, .lp 0 0),(3, .lp 1 0),(10, .d (An l)),(11,vi l.length),(12,vi i)],lk [(0,[vi 0,vi 0]),(1,[vi (Bu s0 (l.take i)).1,vi (Bu s0 (l.take i)).2])],16⟩) (fun i=>i<=l.length) (fun i=>l.length - i) 0 ?_ ?_ ?_
 . simp
 . refine AI.mk hE (fun i=>if i=0 then some 0 else some 4194304) _ _ _ ?_ ?_ ?_ ?_ ?_<;>simp [Bu]
   exact List.take_of_length_le (by simp)
 . intro i hi
   simp [bV];refine Bh (fun h=>?_) (fun h=>?_)
   . simp at h
     obtain ⟨s,hs⟩:∃ s,l[i]?= some s:=⟨l[i],by simp [h]⟩
     have hz:IntKind.wrap .i64 ((i:Int)+1)=(i:Int)+1:=AD (by omega) (by omega);simp [An,hs,AA];refine AL [(11,1)] (by kernel_rfl) ?_;simp [AA,hz,inC,Nat.testBit];refine ⟨i+1,by omega,by omega,?_⟩;refine AI.mk hE (fun i=>some i) _ _ _ ?_ ?_ ?_ ?_ ?_<;>simp [Hw hs,Xa]
   . simp at h
     have hil:i=l.length:=by omega
     subst hil;simp [AA];apply RZ;simp [results255]
end Go.Proofs.Tryz
namespace Go.Psl
variable {Γ:Tys} {eqs:Eqs} {H:Hp} {t:TypeId} {b:Nat}
theorem ABd {p:Option Addr} {n c:Nat} {x:V}:Lr Γ H b t (.d (.lit (.slice p n c))) x=(Γ t).bind fun y=>match y.sh with
 | .slice e=>(Γ e).bind fun ye=>if ye.size=0\/Ei (.d (.lit (.slice p n c))) x=true then none else (cellsOf H ye.size x).bind fun nx=>if nx.2.all V.isCell then (if nx.1*ye.bytes<=Fh/\nx.1<=maxL then some (.ls b 0 nx.1 ye.size, .new b nx.2) else none) else none
 | _=>none:=AF rfl
theorem SR {D':D} {x:V}:Ei (.d D') x=false:=AF rfl
theorem iG {id len sz:Nat} {x:V}:Lr Γ H b t (.ls id 0 len sz) x=(Γ t).bind fun y=>match y.sh with
 | .slice e=>(Γ e).bind fun ye=>if ye.size=0\/Ei (.ls id 0 len sz) x=true then none else (cellsOf H ye.size x).bind fun nx=>if nx.2.all V.isCell then
     (if sz=ye.size then (H id).bind fun cs=>if len*sz<=cs.length/\(len+nx.1)*ye.bytes<=Fh/\len+nx.1<=maxL then some (.ls b 0 (len+nx.1) sz, .mov id b (cs.take (len*sz)++nx.2)) else none else none) else none
 | _=>none:=AF rfl
theorem WP {i o l z i' o' l' z':Nat}:Ei (.ls i o l z) (.ls i' o' l' z')=(i == i'):=AF rfl
theorem cI {i o l z:Nat} {x:D}:Ei (.ls i o l z) (.d x)=false:=AF rfl
theorem Pm {sz:Nat} {p:Option Addr} {n c:Nat}:cellsOf H sz (.d (.lit (.slice p n c)))=some (0,[]):=AF rfl
theorem SS {sz sz':Nat} {es:List (List D)}:cellsOf H sz (.d (.sl sz' es))=if sz=sz' then some (es.length,es.flatten.map .d) else none:=AF rfl
theorem ST {sz sz' id off len:Nat}:cellsOf H sz (.ls id off len sz')=if sz=sz' then (H id).bind fun cs=>if off+len*sz<=cs.length then some (len,(cs.drop off).take (len*sz)) else none else none:=AF rfl
theorem cJ:P8 []= .tup []:=AF rfl
theorem WQ {ρ:Nat->Option Nat}:WV ρ (.tup []) (.tup []):=by simp
attribute [simp] cJ WQ ABd iG WP cI SR Pm SS ST
theorem iH {ρ:Nat->Option Nat} (x:D):WC ρ (.d x) (.d x):=by simp
theorem G7 {ρ:Nat->Option Nat} {xs ys:List V}:∀ ds:List D,AJ (WC ρ) (ds.map .d++xs) (ds.map .d++ys)=AJ (WC ρ) xs ys
 | []=>rfl
 | d::ds=>by
   show (WC ρ (.d d) (.d d)/\AJ (WC ρ) (ds.map .d++xs) (ds.map .d++ys))=_
   rw [G7 ds];exact propext ⟨fun h=>h.2,fun h=>⟨iH d,h⟩⟩
theorem LR {ρ:Nat->Option Nat} (ds:List D):AJ (WC ρ) (ds.map .d) (ds.map .d)=True:=by
 have:=G7 (ρ:=ρ) (xs:=[]) (ys:=[]) ds;rw [List.append_nil] at this;rw [this];exact propext ⟨fun _=>trivial,fun _=>trivial⟩
theorem FO {xs:List V} {ds:List D} (h:xs.all V.isCell=true):Bv (ds.map .d++xs):=Or.inl (by
 rw [List.all_append,h,Bool.and_true,List.all_map,List.all_eq_true];intro x _;rfl)
theorem HJ {ds:List D}:Bv (ds.map .d):=Or.inl (by
 rw [List.all_map,List.all_eq_true];intro x _;rfl)
theorem iI {q:Nat->Prop} {ds:List D}:∀ c∈ds.map V.d,AC q AR c:=fun c h=>by
 simp only [List.mem_map] at h;obtain ⟨d,_,rfl⟩:=h;simp
theorem SV {ρ:Nat->Nat} {ds:List D}:ds.map (BJ ρ ∘ V.d)=ds.map V.d:=by
 apply List.map_congr_left;intro x _;rfl
attribute [simp] SV G7 LR FO HJ
end Go.Psl
namespace Go.Proofs.Tryz
open Go.Psl
theorem NK {x y M N:Int} (hx: -M<=x/\x<=M) (hy: -N<=y/\y<=N): -(M*N)<=x*y/\x*y<=M*N:=by
 have hN:0<=N:=by omega
 have hM:0<=M:=by omega
 have a1:M* -N= -(M*N):=Int.mul_neg M N;by_cases h:0<=x
 . have h1:=Int.mul_le_mul_of_nonneg_left hy.2 h
   have h2:=Int.mul_le_mul_of_nonneg_left hy.1 h;have h3:=Int.mul_le_mul_of_nonneg_right hx.2 hN;have h4:x* -N= -(x*N):=Int.mul_neg x N;omega
 . have h1:=Int.mul_le_mul_of_nonpos_left (show x<=0 by omega) hy.2
   have h2:=Int.mul_le_mul_of_nonpos_left (show x<=0 by omega) hy.1;have h3:=Int.mul_le_mul_of_nonneg_right hx.1 hN;have h4:x* -N= -(x*N):=Int.mul_neg x N;have h5: -M*N= -(M*N):=Int.neg_mul M N;omega
def bd (M:Int) (p:Int × Int):Prop:=(-M<=p.1/\p.1<=M)/\(-M<=p.2/\p.2<=M)
def DU (a b:Int × Int):Int × Int:=(b.1 - a.1,b.2 - a.2)
theorem NL {M N:Int} {a b:Int × Int} (ha:bd M a) (hb:bd M b) (h:N=2*M):bd N (DU a b):=by
 unfold bd DU at*;simp only;omega
theorem TW (a b:Int × Int) (ha:bd 1152921504606846976 a) (hb:bd 1152921504606846976 b):Ct prog 194 [vsp a.1 a.2,vsp b.1 b.2] (vsp (DU a b).1 (DU a b).2) []:=by
 refine CB func194 c194 fun E hE=>?_
 unfold bd at ha hb;have w1:IntKind.wrap .i64 (b.1 - a.1)=b.1 - a.1:=AD (by omega) (by omega);have w2:IntKind.wrap .i64 (b.2 - a.2)=b.2 - a.2:=AD (by omega) (by omega);simp [p194,w1,w2,AA];apply RZ;simp [results194,DU]
def TX (u v:Int × Int):Int:=u.1*v.2 - u.2*v.1
theorem fk {M:Int} {u v:Int × Int} (hu:bd M u) (hv:bd M v):(-(M*M)<=u.1*v.2/\u.1*v.2<=M*M)/\(-(M*M)<=u.2*v.1/\u.2*v.1<=M*M):=⟨NK hu.1 hv.2,NK hu.2 hv.1⟩
theorem ix (u v:Int × Int) (hu:bd 2000000000 u) (hv:bd 2000000000 v):Ct prog 195 [vsp u.1 u.2,vsp v.1 v.2] (vi (TX u v)) []:=by
 refine CB func195 c195 fun E hE=>?_
 have hb:=fk hu hv;have w1:IntKind.wrap .i64 (u.1*v.2)=u.1*v.2:=AD (by omega) (by omega);have w2:IntKind.wrap .i64 (u.2*v.1)=u.2*v.1:=AD (by omega) (by omega);have w3:IntKind.wrap .i64 (u.1*v.2 - u.2*v.1)=u.1*v.2 - u.2*v.1:=AD (by omega) (by omega);simp [p195,w1,w2,w3];apply RZ;simp [results195,TX]
theorem iy (n:Int):Ct prog 302 [vi n] (vb false) []:=by
 refine CB func302 c302 fun E hE=>?_
 simp [p302];apply RZ;simp [results302]
def NM (a b:Int):Int:=if a < b then -1 else if b < a then 1 else 0
theorem iz (a b:Int):Ct prog 272 [vi a,vi b] (vi (NM a b)) []:=by
 refine CB func272 c272 fun E hE=>?_
 simp [p272];refine CLa (iy a) ?_;simp;refine CLa (iy b) ?_;simp;by_cases h:a < b
 . simp [h]
   apply RZ;simp [results272,NM,h]
 . by_cases h2:b < a
   . simp [h,h2]
     apply RZ;simp [results272,NM,h,h2]
   . simp [h,h2]
     apply RZ;simp [results272,NM,h,h2]
def orI:List Int->Int
 | []=>0
 | a::r=>if a=0 then orI r else a
abbrev Ch (l:List Int):D:= .sl 1 (l.map fun n=>[di n])
theorem kv (a b:Int):Ct prog 271 [.d (Ch [a,b])] (vi (orI [a,b])) []:=by
 refine CB func271 c271 fun E hE=>?_
 have hz:IntKind.wrap .i64 1=1:=by decide
 have hz2:IntKind.wrap .i64 2=2:=by decide
 simp [p271];refine Al (α:=Nat) (fun i=>⟨AO [(3,vi 0),(6, .d (Ch [a,b])),(7,vi 2),(8,vi i)],lk [],0⟩) (fun i=>i<=2/\(1<=i->a=0)/\(2<=i->b=0)) (fun i=>2 - i) 0 ?_ ?_ ?_
 . simp
 . exact WK hE (lk [])
 . rintro i ⟨hi,h1,h2⟩
   simp [bX];obtain rfl | rfl | rfl:i=0\/i=1\/i=2:=by omega
   . by_cases h:a=0
     . simp [h,hz]
       refine ⟨1,by omega,by omega,?_⟩;exact WK hE (lk [])
     . simp [h]
       apply RZ;simp [results271,orI,h]
   . have ha:=h1 (by omega)
     by_cases h:b=0
     . simp [h,ha,hz2]
       refine ⟨2,by omega,by omega,?_⟩;exact WK hE (lk [])
     . simp [h,ha]
       apply RZ;simp [results271,orI,h]
   . have ha:=h1 (by omega)
     have hb:=h2 (by omega);simp [ha,hb];apply RZ;simp [results271,orI]
def Dw (a b:Int × Int):Int:=orI [NM a.1 b.1,NM a.2 b.2]
end Go.Proofs.Tryz
namespace Go.Air
structure Cel where
 rm:Int
 he:Int
 ai:Int
 wl:Int
 wh:Int
 lk:Int
 ow:Int
deriving DecidableEq,Inhabited
structure Atm where
 pl:Int
 ph:Int
 tl:Int
 th:Int
deriving DecidableEq,Inhabited
def rgB (lo hi:Int) (l:List Int):Bool:=l.all fun n=>decide (lo<=n)&&decide (n<=hi)
def spB (lo hi a b:Int):Bool:=rgB lo hi [a,b]&&decide (a<=b)
theorem CC {lo hi a b:Int}:spB lo hi a b=true↔lo<=a/\a<=b/\b<=hi:=by
 unfold spB rgB;simp;omega
def L3 (a:Atm):Bool:=spB 1000 12000 a.pl a.ph&&spB 1500 3500 a.tl a.th
def Je (c:Cel):Bool:=rgB 1 10000000 [c.rm]&&rgB 0 10000000 [c.he,c.ai]&&rgB 0 100000 [c.lk]&&rgB 0 999999 [c.ow]&&spB (-300) 300 c.wl c.wh
structure B5 (c:Cel):Prop where
 rm:1<=c.rm/\c.rm<=10000000
 he:0<=c.he/\c.he<=10000000
 ai:0<=c.ai/\c.ai<=10000000
 w: -300<=c.wl/\c.wl<=c.wh/\c.wh<=300
 lk:0<=c.lk/\c.lk<=100000
 ow:0<=c.ow/\c.ow<=999999
structure Fx (a:Atm):Prop where
 p:1000<=a.pl/\a.pl<=a.ph/\a.ph<=12000
 t:1500<=a.tl/\a.tl<=a.th/\a.th<=3500
theorem Dm {c:Cel}:Je c=true↔B5 c:=by
 unfold Je;simp only [Bool.and_eq_true,CC];unfold rgB;simp;constructor
 . rintro ⟨⟨⟨⟨h1,h2⟩,h3⟩,h4⟩,h5⟩;exact ⟨h1,by omega,by omega,h5,h3,by omega⟩
 . rintro ⟨h1,h2,h3,h4,h5,h6⟩;exact ⟨⟨⟨⟨h1,by omega⟩,h5⟩,by omega⟩,h4⟩
theorem VN {a:Atm}:L3 a=true↔Fx a:=by
 unfold L3;simp only [Bool.and_eq_true,CC];exact ⟨fun ⟨h1,h2⟩=>⟨h1,h2⟩,fun h=>⟨h.p,h.t⟩⟩
def am (c:Cel):Int:=c.he+c.ai
def fl (a b:Int):Int:=a / b
def ce (a b:Int):Int:= -(-a / b)
theorem ABy {a b:Int} (hb:0 < b):fl a b=if a < 0/\a.tmod b≠0 then a.tdiv b - 1 else a.tdiv b:=by
 unfold fl;by_cases h:a < 0
 . have e:a= -(-a):=by omega
   obtain ⟨x,rfl⟩:∃ x:Int,a= -x:=⟨-a,by omega⟩
   have hx:0<=x:=by omega
   rw [Int.neg_tdiv,Int.neg_tmod,Int.tdiv_eq_ediv_of_nonneg hx,Int.tmod_eq_emod_of_nonneg hx];have h1:=Int.mul_ediv_add_emod x b;have h2:=Int.emod_nonneg x (show b≠0 by omega);have h3:=Int.emod_lt_of_pos x hb
   have h4: -x / b=if x % b=0 then -(x / b) else -(x / b) - 1:=by
     rw [Int.neg_ediv];have hs:b.sign=1:=Int.sign_eq_one_of_pos hb;rw [hs];by_cases hd:x % b=0
     . rw [if_pos (Int.dvd_of_emod_eq_zero hd),if_pos hd];omega
     . rw [if_neg (fun h=>hd (Int.emod_eq_zero_of_dvd h)),if_neg hd]
   rw [h4];by_cases hd:x % b=0
   . rw [if_pos hd,if_neg (by rw [hd];simp)]
   . rw [if_neg hd,if_pos ⟨by omega,by simpa using hd⟩]
 . rw [if_neg (by omega),Int.tdiv_eq_ediv_of_nonneg (by omega)]
def Bx (c:Cel) (a:Atm):Int × Int:=
 (min (fl (29*am c*c.wl) a.tl) (fl (29*am c*c.wl) a.th)+25*c.he,max (ce (29*am c*c.wh) a.tl) (ce (29*am c*c.wh) a.th)+25*c.he)
theorem S7 {a b d:Int} (hd:0 < d) (h:a<=b):fl a d<=fl b d:=Int.ediv_le_ediv hd h
theorem S8 {a b d:Int} (hd:0 < d) (h:a<=b):ce a d<=ce b d:=by
 have:=Int.ediv_le_ediv hd (show -b<= -a by omega);unfold ce;omega
theorem VO {c:Cel} {a:Atm} (hc:B5 c) (ha:Fx a):
   min (min (min (fl (29*am c*c.wl) a.tl) (fl (29*am c*c.wl) a.th)) (fl (29*am c*c.wh) a.tl)) (fl (29*am c*c.wh) a.th)=min (fl (29*am c*c.wl) a.tl) (fl (29*am c*c.wl) a.th)/\
   max (max (max (ce (29*am c*c.wl) a.tl) (ce (29*am c*c.wl) a.th)) (ce (29*am c*c.wh) a.tl)) (ce (29*am c*c.wh) a.th)=max (ce (29*am c*c.wh) a.tl) (ce (29*am c*c.wh) a.th):=by
 have h0:0<=29*am c:=by have:=hc.he;have:=hc.ai;unfold am;omega
 have hm:29*am c*c.wl<=29*am c*c.wh:=Int.mul_le_mul_of_nonneg_left hc.w.2.1 h0;have t:=ha.t;have k1:=S7 (d:=a.tl) (by omega) hm;have k2:=S7 (d:=a.th) (by omega) hm;have k3:=S8 (d:=a.tl) (by omega) hm;have k4:=S8 (d:=a.th) (by omega) hm;omega
def Lh (c:Cel) (a:Atm):Int:=if am c*(a.th+c.wh)<=c.rm*a.pl then 1 else if c.rm*a.ph < am c*(a.tl+c.wl) then 3 else 2
theorem ig {c:Cel} (h:B5 c):0<=am c/\am c<=20000000:=by have:=h.he;have:=h.ai;unfold am;omega
theorem sD {x y X Y:Int} (hx: -X<=x/\x<=X) (hy: -Y<=y/\y<=Y): -(X*Y)<=x*y/\x*y<=X*Y:=by
 have h1:0<=(X - x)*(Y+y):=Int.mul_nonneg (by omega) (by omega);have h2:0<=(X+x)*(Y - y):=Int.mul_nonneg (by omega) (by omega);have h3:0<=(X - x)*(Y - y):=Int.mul_nonneg (by omega) (by omega);have h4:0<=(X+x)*(Y+y):=Int.mul_nonneg (by omega) (by omega);have e1:(X - x)*(Y+y)=X*Y+X*y - x*Y - x*y:=by grind
 have e2:(X+x)*(Y - y)=X*Y - X*y+x*Y - x*y:=by grind
 have e3:(X - x)*(Y - y)=X*Y - X*y - x*Y+x*y:=by grind
 have e4:(X+x)*(Y+y)=X*Y+X*y+x*Y+x*y:=by grind
 omega
end Go.Air
namespace Go.Proofs.Tryz
open Go.Psl
open Go.Air
abbrev AP (c:Cel):List D:=[di c.rm,di c.he,di c.ai,di c.wl,di c.wh,di c.lk,di c.ow]
abbrev Ky (c:Cel):V:= .agg [vi c.rm,vi c.he,vi c.ai,vi c.wl,vi c.wh,vi c.lk,vi c.ow]
abbrev AX (l:List Cel):D:= .sl 7 (l.map AP)
abbrev Ox (a:Atm):V:= .agg [vi a.pl,vi a.ph,vi a.tl,vi a.th]
theorem ZH {lo hi:Int} {l:List Int} {i:Nat} {n:Int} (h:l[i]?= some n):rgB lo hi (l.take (i+1))=(rgB lo hi (l.take i)&&(decide (lo<=n)&&decide (n<=hi))):=by
 simp [rgB,List.take_add_one,h]
theorem TQ {lo hi:Int} {l:List Int} {i:Nat} {n:Int} (h:l[i]?= some n) (hb:n < lo\/hi < n):rgB lo hi l=false:=by
 unfold rgB;rw [List.all_eq_false];exact ⟨n,List.mem_of_getElem? h,by simp;omega⟩
theorem Bq (lo hi:Int) (l:List Int) (hl:l.length<=1000000):Ct prog 112 [vi lo,vi hi, .d (Ch l)] (vb (rgB lo hi l)) []:=by
 refine CB func112 c112 fun E hE=>?_
 simp [p112];refine Al (α:=Nat) (fun i=>⟨AO [(0,vi lo),(1,vi hi),(9, .d (Ch l)),(10,vi l.length),(11,vi i)],lk [],0⟩) (fun i=>i<=l.length/\rgB lo hi (l.take i)=true) (fun i=>l.length - i) 0 ?_ ?_ ?_
 . simp [rgB]
 . exact WK hE (lk [])
 . rintro i ⟨hi',hf⟩
   by_cases h:i < l.length
   . obtain ⟨n,hn⟩:=gE h
     have hz:=@wz i (by omega);have hI:(i:Int) < l.length:=by omega
     have hnx:=ZH (lo:=lo) (hi:=hi) hn;by_cases h1:n < lo
     . simp [sO,hI,hn,h1]
       apply RZ;simp [results112,TQ hn (Or.inl h1)]
     . by_cases h2:hi < n
       . simp [sO,hI,hn,h1,h2]
         apply RZ;simp [results112,TQ hn (Or.inr h2)]
       . simp [sO,hI,hn,h1,h2,hz]
         refine ⟨i+1,⟨by omega,by rw [hnx,hf];simp;omega⟩,by omega,?_⟩;exact WK hE (lk [])
   . have e:i=l.length:=by omega
     have hn:¬ (i:Int) < l.length:=by omega
     rw [e,List.take_length] at hf;simp [sO,hn];apply RZ;simp [results112,hf]
theorem AG {H:Hp} {id:Nat} {a:Int} (h:H id=some [vi a]):Bor H (.ls id 0 1 1) (.d (Ch [a])):=by
 rw [Bk];exact ⟨rfl,rfl,by simp,_,h,rfl⟩
theorem Ap {H:Hp} {id:Nat} {a b:Int} (h:H id=some [vi a,vi b]):Bor H (.ls id 0 2 1) (.d (Ch [a,b])):=by
 rw [Bk];exact ⟨rfl,rfl,by simp,_,h,rfl⟩
theorem ZI (lo hi a b:Int):Ct prog 179 [vsp a b,vi lo,vi hi] (vb (spB lo hi a b)) []:=by
 have c:=Bq lo hi [a,b] (by simp);refine CB func179 c179 fun E hE=>?_
 cases h:rgB lo hi [a,b]
 . rw [h] at c
   simp [p179,AA,AM];refine CLb (c) (by simp [Ap]) ?_;simp;apply RZ;simp [results179,spB,h]
 . rw [h] at c
   simp [p179,AA,AM];refine CLb (c) (by simp [Ap]) ?_;simp;apply RZ;simp [results179,spB,h]
theorem pN (a b:Int):Ct prog 257 [vsp a b] (vb (spB 1500 3500 a b)) []:=by
 refine CB func257 c257 fun E hE=>?_
 simp [p257];refine CLa (ZI 1500 3500 a b) ?_;simp;apply RZ;simp [results257]
theorem pO (a:Atm):Ct prog 191 [Ox a] (vi (if L3 a then 0 else 30)) []:=by
 have c1:=ZI 1000 12000 a.pl a.ph;have c2:=pN a.tl a.th;refine CB func191 c191 fun E hE=>?_
 cases h1:spB 1000 12000 a.pl a.ph
 . rw [h1] at c1
   simp [p191];refine CLa c1 ?_;simp;apply RZ;simp [results191,L3,h1]
 . rw [h1] at c1
   cases h2:spB 1500 3500 a.tl a.th
   . rw [h2] at c2
     simp [p191];refine CLa c1 ?_;simp;refine CLa c2 ?_;simp;apply RZ;simp [results191,L3,h1,h2]
   . rw [h2] at c2
     simp [p191];refine CLa c1 ?_;simp;refine CLa c2 ?_;simp;apply RZ;simp [results191,L3,h1,h2]
theorem ir (c:Cel):Ct prog 116 [Ky c] (vi (if Je c then 0 else 31)) []:=by
 have c1:=Bq 1 10000000 [c.rm] (by simp);have c2:=Bq 0 10000000 [c.he,c.ai] (by simp);have c3:=Bq 0 100000 [c.lk] (by simp);have c4:=Bq 0 999999 [c.ow] (by simp);have c5:=ZI (-300) 300 c.wl c.wh;have e:Je c=(rgB 1 10000000 [c.rm]&&rgB 0 10000000 [c.he,c.ai]&&rgB 0 100000 [c.lk]&&rgB 0 999999 [c.ow]&&spB (-300) 300 c.wl c.wh):=rfl
 generalize rgB 1 10000000 [c.rm]=b1 at*
 generalize rgB 0 10000000 [c.he,c.ai]=b2 at*
 generalize rgB 0 100000 [c.lk]=b3 at*
 generalize rgB 0 999999 [c.ow]=b4 at*
 generalize spB (-300) 300 c.wl c.wh=b5 at*
 rw [e];refine CB func116 c116 fun E hE=>?_
 cases b1<;>cases b2<;>cases b3<;>cases b4<;>cases b5<;>(
   simp [p116,AA,AM]
   repeat ((first | (refine CLt c1 ?_ ?_;focus (simp [AG];done)) | (refine CLt c2 ?_ ?_;focus (simp [Ap];done)) | (refine CLt c3 ?_ ?_;focus (simp [AG];done)) | (refine CLt c4 ?_ ?_;focus (simp [AG];done)) | (refine CLt c5 ?_ ?_;focus (simp;done)));simp [AA,AM])
   apply RZ;simp [results116])
end Go.Proofs.Tryz
namespace Go.Psl
variable {P:Program} {G:Gh} {W:World} {H:Hp}
def Jw (G:Gh) (H:Hp) (b:Nat):Prop:=G.Im b\/∃ i,InH H i/\G.ph i=false/\G.β i=b
theorem fz0 (hp:∀ id cs,H id=some cs->HB G W id cs) {v c:V} {x:Value} (hb:Df H v c) (hx:RV G W v x):R0 {G with Im:=Jw G H} W c x:=by
 have him:∀ b,G.Im b->Jw G H b/\W.heap[b]?= W.heap[b]?:= fun b hb=>⟨.inl hb,rfl⟩
 have hless:∀ i cs,H i=some cs->H i=some cs/\True:=fun i cs h=>by
   exact ⟨h,trivial⟩
 unfold Df at hb;split at hb
 . rename_i y z
   rcases hb with rfl | ⟨rfl,sz,rfl⟩
   . exact RD.mono (x:=y) hx him
   . have:=BO hx
     subst this;exact RD.sl sz [] none 0 (fun _ _=>undef) (by simp) (by simp [maxL]) (by simp) (by simp) (by simp)
 . rename_i id off len sz sz' es
   obtain ⟨rfl,hl,hes,cs,hh0,hcs⟩:=hb;obtain ⟨hh,hnin⟩:=hless _ _ hh0;obtain ⟨hml,⟨hph,h0,rfl⟩ | ⟨hph,o',cap,rfl,hcap,hoff⟩⟩:=hx
   . have:es=[]:=List.eq_nil_of_length_eq_zero (by omega)
     subst this;exact RD.sl sz' [] none 0 (fun _ _=>undef) (by simp) (by simp [maxL]) (by simp) (by simp) (by simp)
   . obtain ⟨_,c,T,hg,hbs,hcl,hcr,_⟩:=(hp id cs hh).read hph
     have hfl:=B3 es hes;have hlen:((cs.drop off).take (len*sz')).length=len*sz':=by rw [hcs,List.length_map,hfl,hl]
     have hfit:off+len*sz'<=cs.length\/len*sz'=0:=by simp at hlen;omega
     subst hl;refine RD.sl sz' es (some ⟨G.β id,o',none⟩) cap (fun i j=>c.toList.getD (off+i*sz'+j) undef) hes hml hcap (fun i e he=>⟨_,rfl, .inr ⟨id,by show (H id).isSome=true;rw [hh];rfl,hph.1,rfl⟩,fun j y hy=>?_⟩) (fun i e he j y hy=>?_)
     all_goals
       have hil:i < es.length:=(List.getElem?_eq_some_iff.1 he).1;have hel:=hes e (List.mem_of_getElem? he);have hjl:j < sz':=by have:=(List.getElem?_eq_some_iff.1 hy).1;omega
       have hij:i*sz'+j < es.length*sz':=by
         have:(i+1)*sz'<=es.length*sz':=Nat.mul_le_mul_right _ hil;rw [Nat.add_mul] at this;omega
       have hfit':off+es.length*sz'<=cs.length:=by omega
       have hcell:cs[off+(i*sz'+j)]?= some (.d y):=by
         have h1:((cs.drop off).take (es.length*sz'))[i*sz'+j]?= some (V.d y):=by
           rw [hcs,List.getElem?_map,CI (by omega) es hes];have e1:(i*sz'+j) / sz'=i:=by rw [Nat.add_comm,Nat.add_mul_div_right _ _ (by omega),Nat.div_eq_of_lt hjl];omega
           have e2:(i*sz'+j) % sz'=j:=by rw [Nat.add_comm,Nat.add_mul_mod_self_right,Nat.mod_eq_of_lt hjl]
           rw [e1,e2,he];simp [hy]
         rw [List.getElem?_take,if_pos hij,List.getElem?_drop] at h1;exact h1
       obtain ⟨u,hu,hru⟩:=hcr.get hcell;rw [List.getElem?_take] at hu;split at hu
       rotate_left
       . cases hu
     . obtain ⟨rfl,_⟩:=hoff (by omega)
       rw [Bc];simp only [World.cell?,hg];rw [Array.getElem?_toList] at hu
       have h2:c.toList.getD (o'+i*sz'+j) undef=u:=by
         rw [List.getD_eq_getElem?_getD,Array.getElem?_toList,show o'+i*sz'+j=o'+(i*sz'+j) by omega,hu];rfl
       rw [h2];simpa using hu
     . have h2:c.toList.getD (off+i*sz'+j) undef=u:=by
         rw [List.getD_eq_getElem?_getD,show off+i*sz'+j=off+(i*sz'+j) by omega,hu];rfl
       show RD _ _ y (c.toList.getD (off+i*sz'+j) undef)
       rw [h2];exact RD.mono (x:=y) hru him
 . rename_i id off ds
   obtain ⟨cs,hh0,hcs⟩:=hb;obtain ⟨hh,hnin⟩:=hless _ _ hh0;obtain ⟨hph,rfl⟩:(G.ph id=false/\G.lo id=false)/\x= .pointer (some ⟨G.β id,off,none⟩):=hx;obtain ⟨_,c,T,hg,hbs,hcl,hcr,_⟩:=(hp id cs hh).read hph
   have get:∀ (j:Nat) y,ds[j]?= some y->∃ u,c.toList[off+j]?= some u/\RD (Jw G H) W y u:=fun j y hy=>by
     have hj:=(List.getElem?_eq_some_iff.1 hy).1;have h1:((cs.drop off).take ds.length)[j]?= some (V.d y):=by rw [hcs,List.getElem?_map,hy];rfl
     rw [List.getElem?_take,if_pos hj,List.getElem?_drop] at h1;obtain ⟨u,hu,hru⟩:=hcr.get h1;rw [List.getElem?_take] at hu;split at hu
     . exact ⟨u,hu,RD.mono (x:=y) hru him⟩
     . cases hu
   refine RD.ref ds _ (fun j=>c.toList.getD (off+j) undef) (.inr ⟨id,by show (H id).isSome=true;rw [hh];rfl,hph.1,rfl⟩) (fun j y hy=>?_) (fun j y hy=>?_)
   . obtain ⟨u,hu,_⟩:=get j y hy
     rw [Bc,List.getD_eq_getElem?_getD,hu];simp only [World.cell?,hg];simpa using hu
   . obtain ⟨u,hu,hr⟩:=get j y hy
     rw [List.getD_eq_getElem?_getD,hu];exact hr
 . rename_i f caps g ds
   obtain ⟨rfl,rfl⟩:=hb;obtain ⟨cv,rfl,hcr⟩:=hx;have hl:=hcr.length;refine RD.fn f ds cv (by simpa using hl.symm) fun j y v hy hv=>?_
   have h1:(ds.map V.d)[j]?= some (V.d y):=by rw [List.getElem?_map,hy];rfl
   obtain ⟨u,hu,hru⟩:=hcr.get h1;rw [Array.getElem?_toList,hv] at hu;cases hu;exact RD.mono (x:=y) hru him
 . obtain ⟨rfl,rfl⟩:=hb;exact hx
 . obtain ⟨rfl,rfl,rfl,rfl⟩:=hb;exact hx
 . have hb:_=_:=hb;subst hb;exact hx
 . exact hb.elim
def FzC (H:Hp) (v c:V):Prop:=∃ y,c= .d y/\Df H v (.d y)
def FzR (H:Hp) (v c:V):Prop:=Df H v c\/∃ id off cs ds,v= .lp id off/\c= .d (.ref ds)/\H id=some cs/\AJ (fun c y=>Df H c (.d y)) ((cs.drop off).take ds.length) ds
theorem fz0r (hp:∀ id cs,H id=some cs->HB G W id cs) {v c:V} {x:Value} (hb:FzR H v c) (hx:RV G W v x):R0 {G with Im:=Jw G H} W c x:=by
 rcases hb with hb | ⟨id,off,cs,ds,rfl,rfl,hh,hcs⟩
 . exact fz0 hp hb hx
 obtain ⟨hph,rfl⟩:(G.ph id=false/\G.lo id=false)/\x= .pointer (some ⟨G.β id,off,none⟩):=hx;obtain ⟨_,c,T,hg,hbs,hcl,hcr,_⟩:=(hp id cs hh).read hph
 have get:∀ (j:Nat) y,ds[j]?= some y->∃ u,c.toList[off+j]?= some u/\RD (Jw G H) W y u:=fun j y hy=>by
   obtain ⟨v,hv,hvy⟩:=hcs.get2 hy;have hj:=(List.getElem?_eq_some_iff.1 hy).1;rw [List.getElem?_take,if_pos hj,List.getElem?_drop] at hv;obtain ⟨u,hu,hru⟩:=hcr.get hv;rw [List.getElem?_take] at hu;split at hu
   . exact ⟨u,hu,fz0 hp hvy (R2.rv (R1.r2 hru))⟩
   . cases hu
 refine RD.ref ds _ (fun j=>c.toList.getD (off+j) undef) (.inr ⟨id,by show (H id).isSome=true;rw [hh];rfl,hph.1,rfl⟩) (fun j y hy=>?_) (fun j y hy=>?_)
 . obtain ⟨u,hu,_⟩:=get j y hy
   rw [Bc,List.getD_eq_getElem?_getD,hu];simp only [World.cell?,hg];simpa using hu
 . obtain ⟨u,hu,hr⟩:=get j y hy
   rw [List.getD_eq_getElem?_getD,hu];exact hr
def Fz1 (H:Hp):V->V->Prop
 | .agg cs, .agg ds=>AJ (FzC H) cs ds
 | .cl f caps, .d (.fn g ds)=>f=g/\AJ (FzR H) caps (ds.map .d)
 | v, .d y=>Df H v (.d y)
 | _,_=>False
def Fz (H:Hp):V->V->Prop
 | .tup vs, .tup ws=>AJ (Fz1 H) vs ws
 | v,w=>Fz1 H v w
theorem fz1 (hp:∀ id cs,H id=some cs->HB G W id cs) {v c:V} {x:Value} (hb:Fz1 H v c) (hx:R2 G W v x):R2 {G with Im:=Jw G H} W c x:=by
 unfold Fz1 at hb;split at hb
 . rename_i cs ds
   obtain ⟨cv,rfl,hr⟩:=hx;refine ⟨cv,rfl,AJ.of_get (by rw [<-hb.length,hr.length]) fun i d z hd hz=>?_⟩;obtain ⟨c,hc,y,rfl,hy⟩:=hb.get2 hd;obtain ⟨u,hu,hru⟩:=hr.get hc;rw [hz] at hu;cases hu;exact R0.r1 (fz0 hp hy (R2.rv (R1.r2 hru)))
 . rename_i f caps g ds
   obtain ⟨rfl,hc⟩:=hb;obtain ⟨cv,rfl,hr⟩:=hx;have hl:cv.size=ds.length:=by have h1:=hc.length;have h2:=hr.length;simp at h1 h2;omega
   refine RD.fn f ds cv hl fun j y z hy hz=>?_
   obtain ⟨c,hcj,hcy⟩:=hc.get2 (show (ds.map V.d)[j]?= some (.d y) by rw [List.getElem?_map,hy];rfl);obtain ⟨u,hu,hru⟩:=hr.get hcj;rw [Array.getElem?_toList,hz] at hu;cases hu;exact fz0r hp hcy (R2.rv (R1.r2 (R0.r1 hru)))
 . refine R1.r2 (R0.r1 (fz0 hp hb (R2.rv hx)))
 . exact hb.elim
theorem Zc {v c:V} (hb:Fz1 H v c):A2 (fun _=>False) AR c:=by
 unfold Fz1 at hb;split at hb
 . rename_i cs ds
   intro d hd;obtain ⟨i,hi⟩:=List.getElem?_of_mem hd;obtain ⟨c,_,y,rfl,_⟩:=hb.get2 hi;trivial
 . trivial
 . trivial
 . exact hb.elim
theorem ku (hp:∀ id cs,H id=some cs->HB G W id cs) {v c:V} {x:Value} (hb:Fz H v c) (hx:RV G W v x):RV {G with Im:=Jw G H} W c x:=by
 unfold Fz at hb;split at hb
 . rename_i vs ws
   obtain ⟨cv,rfl,hr⟩:=hx;refine ⟨cv,rfl,AJ.of_get (by rw [<-hb.length,hr.length]) fun i y z hy hz=>?_⟩;obtain ⟨w,hw,hbw⟩:=hb.get2 hy;obtain ⟨u,hu,hru⟩:=hr.get hw;rw [hz] at hu;cases hu;exact fz1 hp hbw hru
 . refine R2.rv (fz1 hp hb ?_)
   cases v<;>first | exact hx | (exfalso;revert hb;cases c<;>simp [Fz1,Df];done)
theorem pX {v c:V} (hb:Fz H v c):AV (fun _=>False) AR c:=by
 unfold Fz at hb;split at hb
 . rename_i vs ws
   intro w hw;obtain ⟨i,hi⟩:=List.getElem?_of_mem hw;obtain ⟨u,_,hu⟩:=hb.get2 hi;exact Zc hu
 . have:=Zc hb
   cases c<;>first | exact this | (revert hb;simp [Fz1];done)
theorem Cm.freeze {f:FuncId} {args:List V} {Hin:Hp} {r r':V} {H1:Hp} (h:Cm P f args Hin [] (.ret r) H1) (hf:Fz H1 r r'):Cm P f args Hin [] (.ret r') (fun _=>none):=by
 refine ⟨h.1,fun G W xs him hargs hpre=>Calls.mono (h.2 G W xs him hargs hpre) fun e W' ⟨G',p⟩=>?_⟩;have hB:∀ id cs,H1 id=some cs->HB G' W' id cs:=fun id cs hid=>(p.hb id cs hid).1
 have hblk:∀ i,InH H1 i->G'.ph i=false->G'.β i < W'.heap.size:=fun i hi hph=>by
   cases hc:H1 i with
   | none=>simp [InH,hc] at hi
   | some cs=>
     rcases hB i cs hc with ⟨h1,_⟩ | ⟨_,_,_,c,T,h3,_⟩ | ⟨_,_,_,fr,nt,ps,pa,pb,jmp,rec,_,h4,_⟩
     . rw [h1] at hph;cases hph
     . exact (Array.getElem?_eq_some_iff.1 h3).1
     . exact (Array.getElem?_eq_some_iff.1 h4).1
 refine ⟨{G' with Im:=Jw G' H1},p.os,p.tape,p.output,p.drawn,p.size,p.block,fun b hb=>?_,fun b hb=> .inl (p.im0 b hb),?_,?_,fun i cs h=>(by cases h),fun i j h=>(by simp [InH] at h),fun i h=>(by cases h)⟩
 . rcases hb with hb | ⟨i,hi,hph,rfl⟩
   . exact p.im b hb
   . refine ⟨hblk i hi hph, .inr ?_⟩
     cases hc:H1 i with
     | none=>simp [InH,hc] at hi
     | some cs=>exact (p.hb i cs hc).2.1 hph
 . have hrv:=p.rv
   cases e with
   | returned v=>exact ku hB hf hrv
   | _=>exact hrv.elim
 . show AV (InH fun _=>none) AR r'
   exact AV.mono (fun _ h=>h.elim) (fun _ h=>h) (pX hf)
end Go.Psl
namespace Go.Psl
variable {α:Type} {f:α->List D} {sz:Nat}
abbrev slD (f:α->List D) (sz:Nat) (l:List α):D:= .sl sz (l.map f)
def AH (f:α->List D) (l:List α):List V:=((l.map f).flatten).map .d
theorem ZA:AH f []=[]:=rfl
theorem CQ (x:α) (l:List α):AH f (x::l)=(f x).map .d++AH f l:=by simp [AH]
theorem ZB (l m:List α):AH f l++AH f m=AH f (l++m):=by simp [AH]
theorem IV (l:List α) (x:α):AH f (l++[x])=AH f l++(f x).map .d:=by simp [AH]
theorem BU {l:List α}:∀ v∈AH f l,v.isCell=true:=fun v hv=>by
 obtain ⟨y,_,rfl⟩:=List.mem_map.1 hv;rfl
theorem Aw (hf:∀ x,(f x).length=sz):∀ l:List α,(AH f l).length=l.length*sz
 | []=>by simp [ZA]
 | x::r=>by rw [CQ,List.length_append,List.length_map,hf,Aw hf r,List.length_cons,Nat.succ_mul];omega
theorem VY (hf:∀ x,(f x).length=sz) (l m:List α):(AH f (l++m)).take (l.length*sz)=AH f l:=by
 rw [<-ZB,List.take_left' (Aw hf l)]
theorem E9 (hf:∀ x,(f x).length=sz) (l:List α):(AH f l).take (l.length*sz)=AH f l:=by
 rw [<-Aw hf,List.take_length]
theorem GU (hf:∀ x,(f x).length=sz):∀ {l:List α} {i:Nat} {x:α},l[i]?= some x->∃ m,(AH f l).drop (i*sz)=(f x).map .d++m
 | [],_,_,h=>by simp at h
 | a::r,0,x,h=>by
   simp at h;subst h;exact ⟨AH f r,by rw [CQ];simp⟩
 | a::r,i+1,x,h=>by
   obtain ⟨m,hm⟩:=GU hf (l:=r) (i:=i) (x:=x) (by simpa using h);refine ⟨m,?_⟩;rw [CQ,Nat.succ_mul,Nat.add_comm (i*sz) sz,<-List.drop_drop,List.drop_left' (by rw [List.length_map,hf])];exact hm
theorem J2 (hf:∀ x,(f x).length=sz) {l:List α} {i:Nat} {x:α} (h:l[i]?= some x):((AH f l).drop (i*sz)).take sz=(f x).map .d:=by
 obtain ⟨m,hm⟩:=GU hf h;rw [hm,List.take_left' (by rw [List.length_map,hf])]
theorem Bg (hf:∀ x,(f x).length=sz) {l:List α} {i j k:Nat} {x:α} (h:l[i]?= some x) (hj:j+k<=sz):((AH f l).drop (i*sz+j)).take k=(((f x).drop j).take k).map .d:=by
 obtain ⟨m,hm⟩:=GU hf h;rw [<-List.drop_drop,hm,List.drop_append_of_le_length (by rw [List.length_map,hf];omega),List.take_append_of_le_length (by rw [List.length_drop,List.length_map,hf];omega),List.map_take,List.map_drop]
theorem Jg (hf:∀ x,(f x).length=sz) {l:List α} {i j:Nat} {x:α} {y:D} (h:l[i]?= some x) (hy:(f x)[j]?= some y):(AH f l)[i*sz+j]?= some (.d y):=by
 obtain ⟨m,hm⟩:=GU hf h;have hj:=(List.getElem?_eq_some_iff.1 hy).1;rw [<-List.getElem?_drop,hm,List.getElem?_append_left (by simpa using hj),List.getElem?_map,hy];rfl
theorem IW (_:∀ x,(f x).length=sz) {l:List α} {i:Nat} {x:α} (h:l[i]?= some x):i*sz+sz<=l.length*sz:=by
 have:=(List.getElem?_eq_some_iff.1 h).1;have:=Nat.mul_le_mul_right sz this;rw [Nat.succ_mul] at this;exact this
theorem Cq (hf:∀ x,(f x).length=sz):∀ {l:List α} {i:Nat} {x y:α} {j:Nat} {vs:List D},l[i]?= some x->j+vs.length<=sz->f y=(f x).take j++vs++(f x).drop (j+vs.length)->AA (AH f l) (i*sz+j) (vs.map .d)=AH f (l.set i y)
 | [],_,_,_,_,_,h,_,_=>by simp at h
 | a::r,0,x,y,j,vs,h,hj,hy=>by
   simp at h;subst h;have ha:((f a).map V.d).length=sz:=by rw [List.length_map,hf]
   rw [List.set_cons_zero,CQ,CQ,hy];unfold AA;rw [Nat.zero_mul,Nat.zero_add,List.take_append_of_le_length (by omega),List.length_map,List.drop_append_of_le_length (by omega)];simp [List.map_take,List.map_drop]
 | a::r,i+1,x,y,j,vs,h,hj,hy=>by
   have ih:=Cq hf (l:=r) (i:=i) (x:=x) (y:=y) (j:=j) (vs:=vs) (by simpa using h) hj hy;have ha:((f a).map V.d).length=sz:=by rw [List.length_map,hf]
   rw [List.set_cons_succ,CQ,CQ,<-ih];unfold AA;have e1:(i+1)*sz+j=((f a).map V.d).length+(i*sz+j):=by rw [ha,Nat.succ_mul];omega
   rw [e1,List.take_length_add_append,Nat.add_assoc,List.drop_length_add_append];simp
theorem VZ (hf:∀ x,(f x).length=sz) {H:Hp} {id:Nat} {l z:List α} (h:H id=some (AH f (l++z))):Bor H (.ls id 0 l.length sz) (.d (slD f sz l)):=by
 rw [Bk];refine ⟨rfl,by simp,fun e he=>?_,_,h,?_⟩
 . obtain ⟨k,_,rfl⟩:=List.mem_map.1 he;exact hf k
 . rw [List.drop_zero,VY hf];rfl
theorem B0 (hf:∀ x,(f x).length=sz) {H:Hp} {id:Nat} {l:List α} (h:H id=some (AH f l)):Bor H (.ls id 0 l.length sz) (.d (slD f sz l)):=
 VZ hf (z:=[]) (by rw [List.append_nil];exact h)
def hdF (sz:Nat) (l:List α) (b:Nat):V:=if l.isEmpty then .d (.lit (.slice none 0 0)) else .ls b 0 l.length sz
def ouF (f:α->List D) (l:List α) (b:Nat):List (Nat × List V):=if l.isEmpty then [] else [(b,AH f l)]
theorem Aq (b:Nat):hdF sz ([]:List α) b= .d (.lit (.slice none 0 0)):=rfl
theorem Au (b:Nat):ouF f [] b=[]:=rfl
theorem Ak {l:List α} (h:l≠[]) (b:Nat):hdF sz l b= .ls b 0 l.length sz:=by
 unfold hdF;cases l with
 | nil=>exact absurd rfl h
 | cons=>rfl
theorem AZ {l:List α} (h:l≠[]) (b:Nat):ouF f l b=[(b,AH f l)]:=by
 unfold ouF;cases l with
 | nil=>exact absurd rfl h
 | cons=>rfl
def ixF (q:α->Bool) (l:List α):Int:=match l.findIdx? q with | some i=>i | none=> -1
theorem IX {q:α->Bool} {l:List α} (h:∀ (j:Nat) (x:α),l[j]?= some x->q x=false):ixF q l= -1:=by
 unfold ixF
 have:l.findIdx? q=none:=by
   rw [List.findIdx?_eq_none_iff];intro p hp;obtain ⟨j,hj⟩:=List.getElem?_of_mem hp;exact h j p hj
 rw [this]
theorem IY {q:α->Bool} {l:List α} {i:Nat} {x:α} (hx:l[i]?= some x) (hq:q x=true) (h:∀ (j:Nat) (y:α),j < i->l[j]?= some y->q y=false):ixF q l=i:=by
 unfold ixF
 have:l.findIdx? q=some i:=by
   rw [List.findIdx?_eq_some_iff_getElem];obtain ⟨h1,h2⟩:=List.getElem?_eq_some_iff.1 hx;refine ⟨h1,by rw [h2];exact hq,fun j hj=>?_⟩;have:=h j l[j] hj (List.getElem?_eq_getElem (by omega));rw [this];simp
 rw [this]
theorem IZ (q:α->Bool) (l:List α):decide (0<=ixF q l)=l.any q:=by
 unfold ixF;cases h:l.findIdx? q with
 | none=>
   rw [List.findIdx?_eq_none_iff] at h;have h2:l.any q=false:=by rw [List.any_eq_false];intro x hx;rw [h x hx];simp
   rw [h2];rfl
 | some i=>
   rw [List.findIdx?_eq_some_iff_getElem] at h;obtain ⟨h1,h2,_⟩:=h;have:l.any q=true:=List.any_eq_true.2 ⟨_,List.getElem_mem h1,h2⟩;rw [this];simp
@[simp] theorem mT {ρ:Nat->Option Nat} {l:List α} {xs ys:List V}:AJ (WC ρ) (AH f l++xs) (AH f l++ys)=AJ (WC ρ) xs ys:=G7 _
@[simp] theorem ki {ρ:Nat->Option Nat} {l:List α}:AJ (WC ρ) (AH f l) (AH f l)=True:=LR _
@[simp] theorem pG {l:List α}:Bv (AH f l)=True:=eq_true HJ
@[simp] theorem pH {l:List α} {a b:D}:Bv (AH f l++[V.d a,V.d b])=True:=eq_true (FO rfl)
@[simp] theorem pI {l:List α} {a b c:D}:Bv (AH f l++[V.d a,V.d b,V.d c])=True:=eq_true (FO rfl)
theorem TL {l:List α} {p:Nat->Prop}:∀ c∈AH f l,AC p AR c:=fun c hc=>by
 obtain ⟨y,_,rfl⟩:=List.mem_map.1 hc;trivial
@[simp] theorem kj {l:List α} {p:Nat->Prop} {Q:V->Prop}:(∀ c,c∈AH f l\/Q c->AC p AR c)=∀ c,Q c->AC p AR c:=
 propext ⟨fun h c hc=>h c (Or.inr hc),fun h c hc=>hc.elim (TL c) (h c)⟩
@[simp] theorem pJ {l:List α} {p:Nat->Prop}:(∀ c,c∈AH f l->AC p AR c)=True:=eq_true TL
theorem Ou {l:List α} {p:Nat->Prop} (h:∀ x,∀ y∈f x,B9 y):∀ c∈AH f l,AC p B9 c:=fun c hc=>by
 obtain ⟨y,hy,rfl⟩:=List.mem_map.1 hc;obtain ⟨z,hz,hyz⟩:=List.mem_flatten.1 hy;obtain ⟨x,_,rfl⟩:=List.mem_map.1 hz;exact h x y hyz
@[simp] theorem pK {l:List α} (ρ:Nat->Nat):List.map (BJ ρ) (AH f l)=AH f l:=by
 unfold AH;rw [List.map_map];exact List.map_congr_left fun _ _=>rfl
theorem Ov {H:Hp}:∀ ds:List D,AJ (Bor H) (ds.map .d) (ds.map .d)
 | []=>by simp
 | d::ds=>by simp [Ov ds]
@[simp] theorem rN {H:Hp} (ds:List D):AJ (Bor H) (ds.map .d) (ds.map .d)=True:=eq_true (Ov ds)
end Go.Psl
