-- The print's words, those alone that this law names (trim.py).
import Derived.Test.YtcihgepinnajjaaDoorVWApart
import Derived.Test.YtcihgepinnajjaaDoorVWArr
